/- The plain machine: a deterministic evaluator of the model's code over a heap of its own. Definitions alone; no condition. -/
import GoSem.Step
import Derived.Calls
import Derived.Below
import Derived.Laws.AppendOwn
import Derived.Laws.MakeOwn
import Derived.Laws.CopyRow
import Derived.Deep.MidRow
import Derived.Lib.Space
import Derived.Laws.StructEq
import Derived.ChangeKeysEq
import Derived.RangeFuncRecord
import Derived.Laws.BytesArg
import Derived.Lib.ConvBytes
import Derived.CallsIn
import Derived.TacticsIn
import Derived.LoopNIn
import Derived.Scope
import Derived.RangeFuncLeaves
set_option linter.unusedSimpArgs false
namespace Go.Am
theorem GN:type_of% @Array.getElem?_eq_getElem:=@Array.getElem?_eq_getElem
theorem my:type_of% @Array.getElem?_eq_some_iff:=@Array.getElem?_eq_some_iff
theorem xh:type_of% @Array.getElem?_push:=@Array.getElem?_push
theorem GH:type_of% @Array.getElem?_setIfInBounds_ne:=@Array.getElem?_setIfInBounds_ne
theorem uE:type_of% @Array.length_toList:=@Array.length_toList
theorem Md:type_of% @Array.toList_inj:=@Array.toList_inj
theorem dW:type_of% @Bool.and_eq_true:=@Bool.and_eq_true
theorem iv:type_of% @Bool.and_self:=@Bool.and_self
theorem G7:type_of% @Bool.and_true:=@Bool.and_true
theorem gH:type_of% @Bool.false_eq_true:=@Bool.false_eq_true
theorem yi:type_of% @Bool.not_eq_true':=@Bool.not_eq_true'
theorem sF:type_of% @Bool.or_eq_true:=@Bool.or_eq_true
theorem uG:type_of% @Int.toNat_natCast:=@Int.toNat_natCast
theorem Fg:type_of% @List.all_append:=@List.all_append
theorem iy:type_of% @List.all_cons:=@List.all_cons
theorem jE:type_of% @List.all_eq_true:=@List.all_eq_true
theorem jt:type_of% @List.all_nil:=@List.all_nil
theorem L5:type_of% @List.any_eq_false:=@List.any_eq_false
theorem Fc:type_of% @List.any_eq_true:=@List.any_eq_true
theorem sE:type_of% @List.append_assoc:=@List.append_assoc
theorem bD:type_of% @List.append_nil:=@List.append_nil
theorem rO:type_of% @List.cons_append:=@List.cons_append
theorem G3:type_of% @List.countP_cons:=@List.countP_cons
theorem Me:type_of% @List.drop_append:=@List.drop_append
theorem Fh:type_of% @List.drop_drop:=@List.drop_drop
theorem B8:type_of% @List.drop_of_length_le:=@List.drop_of_length_le
theorem Fi:type_of% @List.drop_zero:=@List.drop_zero
theorem LA:type_of% @List.eq_nil_of_length_eq_zero:=@List.eq_nil_of_length_eq_zero
theorem xi:type_of% @List.ext_getElem? := @List.ext_getElem?
theorem L4:type_of% @List.filter_append:=@List.filter_append
theorem OW:type_of% @List.filter_eq_nil_iff:=@List.filter_eq_nil_iff
theorem G0:type_of% @List.flatMap_cons:=@List.flatMap_cons
theorem tP:type_of% @List.foldl_cons:=@List.foldl_cons
theorem ni:type_of% @List.getD_eq_getElem?_getD:=@List.getD_eq_getElem?_getD
theorem Aj:type_of% @List.getElem?_append:=@List.getElem?_append
theorem jC:type_of% @List.getElem?_append_left:=@List.getElem?_append_left
theorem lj:type_of% @List.getElem?_append_right:=@List.getElem?_append_right
theorem Cb:type_of% @List.getElem?_cons_zero:=@List.getElem?_cons_zero
theorem lJ:type_of% @List.getElem?_drop:=@List.getElem?_drop
theorem gG:type_of% @List.getElem?_eq_getElem:=@List.getElem?_eq_getElem
theorem GR:type_of% @List.getElem?_eq_none:=@List.getElem?_eq_none
theorem fR:type_of% @List.getElem?_eq_some_iff:=@List.getElem?_eq_some_iff
theorem lk:type_of% @List.getElem?_map:=@List.getElem?_map
theorem GU:type_of% @List.getElem?_modify:=@List.getElem?_modify
theorem E6:type_of% @List.getElem?_of_mem:=@List.getElem?_of_mem
theorem LY:type_of% @List.getElem?_range:=@List.getElem?_range
theorem G1:type_of% @List.getElem?_set:=@List.getElem?_set
theorem yf:type_of% @List.getElem?_set_ne:=@List.getElem?_set_ne
theorem mz:type_of% @List.getElem?_set_self:=@List.getElem?_set_self
theorem qF:type_of% @List.getElem?_take:=@List.getElem?_take
theorem EW:type_of% @List.getElem?_take_of_lt:=@List.getElem?_take_of_lt
theorem tM:type_of% @List.getElem_of_mem:=@List.getElem_of_mem
theorem cT:type_of% @List.length_append:=@List.length_append
theorem eB:type_of% @List.length_cons:=@List.length_cons
theorem mB:type_of% @List.length_drop:=@List.length_drop
theorem Cc:type_of% @List.length_eq_zero_iff:=@List.length_eq_zero_iff
theorem gq:type_of% @List.length_map:=@List.length_map
theorem dK:type_of% @List.length_nil:=@List.length_nil
theorem Fb:type_of% @List.length_range:=@List.length_range
theorem iS:type_of% @List.length_set:=@List.length_set
theorem jk:type_of% @List.length_singleton:=@List.length_singleton
theorem gR:type_of% @List.length_take:=@List.length_take
theorem sG:type_of% @List.map_append:=@List.map_append
theorem Cd:type_of% @List.map_congr_left:=@List.map_congr_left
theorem qG:type_of% @List.map_cons:=@List.map_cons
theorem iT:type_of% @List.mem_append:=@List.mem_append
theorem yg:type_of% @List.mem_append_left:=@List.mem_append_left
theorem L3:type_of% @List.mem_append_right:=@List.mem_append_right
theorem db:type_of% @List.mem_cons:=@List.mem_cons
theorem rN:type_of% @List.mem_cons_of_mem:=@List.mem_cons_of_mem
theorem nU:type_of% @List.mem_cons_self:=@List.mem_cons_self
theorem G4:type_of% @List.mem_flatMap:=@List.mem_flatMap
theorem ph:type_of% @List.mem_map:=@List.mem_map
theorem ek:type_of% @List.mem_of_getElem? := @List.mem_of_getElem?
theorem yd:type_of% @List.mem_or_eq_of_mem_set:=@List.mem_or_eq_of_mem_set
theorem uI:type_of% @List.mem_range:=@List.mem_range
theorem eM:type_of% @List.mem_singleton:=@List.mem_singleton
theorem yk:type_of% @List.nil_append:=@List.nil_append
theorem hY:type_of% @List.not_mem_nil:=@List.not_mem_nil
theorem uF:type_of% @List.pairwise_cons:=@List.pairwise_cons
theorem Ce:type_of% @List.set_cons_succ:=@List.set_cons_succ
theorem fW:type_of% @List.set_cons_zero:=@List.set_cons_zero
theorem Vp:type_of% @List.takeWhile_append_dropWhile:=@List.takeWhile_append_dropWhile
theorem oT:type_of% @List.take_add_one:=@List.take_add_one
theorem GS:type_of% @List.take_append_drop:=@List.take_append_drop
theorem Mf:type_of% @List.take_length:=@List.take_length
theorem iR:type_of% @List.take_of_length_le:=@List.take_of_length_le
theorem Fj:type_of% @List.take_zero:=@List.take_zero
theorem oU:type_of% @Nat.add_assoc:=@Nat.add_assoc
theorem qH:type_of% @Nat.add_mul:=@Nat.add_mul
theorem Cf:type_of% @Nat.add_sub_cancel:=@Nat.add_sub_cancel
theorem LH:type_of% @Nat.add_sub_cancel_left:=@Nat.add_sub_cancel_left
theorem gS:type_of% @Nat.add_zero:=@Nat.add_zero
theorem G5:type_of% @Nat.le_add_right:=@Nat.le_add_right
theorem yl:type_of% @Nat.le_max_left:=@Nat.le_max_left
theorem yj:type_of% @Nat.le_max_right:=@Nat.le_max_right
theorem uJ:type_of% @Nat.le_of_eq:=@Nat.le_of_eq
theorem aQ:type_of% @Nat.le_refl:=@Nat.le_refl
theorem mN:type_of% @Nat.le_succ:=@Nat.le_succ
theorem dZ:type_of% @Nat.le_trans:=@Nat.le_trans
theorem dt:type_of% @Nat.lt_of_lt_of_le:=@Nat.lt_of_lt_of_le
theorem mM:type_of% @Nat.lt_or_ge:=@Nat.lt_or_ge
theorem Ci:type_of% @Nat.lt_succ_of_lt:=@Nat.lt_succ_of_lt
theorem nj:type_of% @Nat.lt_succ_self:=@Nat.lt_succ_self
theorem G2:type_of% @Nat.lt_trichotomy:=@Nat.lt_trichotomy
theorem xj:type_of% @Nat.min_le_left:=@Nat.min_le_left
theorem G6:type_of% @Nat.min_le_right:=@Nat.min_le_right
theorem Cj:type_of% @Nat.mod_eq_of_lt:=@Nat.mod_eq_of_lt
theorem xk:type_of% @Nat.mul_comm:=@Nat.mul_comm
theorem tN:type_of% @Nat.mul_le_mul_right:=@Nat.mul_le_mul_right
theorem uH:type_of% @Nat.not_lt_zero:=@Nat.not_lt_zero
theorem tQ:type_of% @Nat.sub_self:=@Nat.sub_self
theorem uK:type_of% @Nat.succ_mul:=@Nat.succ_mul
theorem i5:type_of% @Nat.zero_add:=@Nat.zero_add
theorem jl:type_of% @Nat.zero_le:=@Nat.zero_le
theorem cy:type_of% @Option.bind_eq_some_iff:=@Option.bind_eq_some_iff
theorem dH:type_of% @Option.bind_some:=@Option.bind_some
theorem Aq:type_of% @Option.getD_some:=@Option.getD_some
theorem Cg:type_of% @Option.isSome_none:=@Option.isSome_none
theorem GV:type_of% @Option.isSome_some:=@Option.isSome_some
theorem cn:type_of% @Option.map_eq_some_iff:=@Option.map_eq_some_iff
theorem kK:type_of% @Option.map_some:=@Option.map_some
theorem dR:type_of% @Option.some.injEq:=@Option.some.injEq
theorem cR:type_of% @Prod.mk.injEq:=@Prod.mk.injEq
theorem tO:type_of% @decide_eq_false:=@decide_eq_false
theorem sH:type_of% @decide_eq_true:=@decide_eq_true
theorem ix:type_of% @decide_eq_true_eq:=@decide_eq_true_eq
theorem aA:type_of% @if_neg:=@if_neg
theorem aB:type_of% @if_pos:=@if_pos

inductive aZ where
 |row (cells:List Value) (elem:TypeId) (ro:Bool)
 |map (es:List MapEntry) (clock:Nat)
 |loop (env:List Value) (ps:List Tmp) (assign body:Code) (st:LoopState) (fF:Option Code)
 |dead

inductive Tr where
 |nil
 |node (v:Option aZ) (l r:Tr)

def Tr.get:Tr->Nat->Option aZ
 | .nil,_=>none
 | .node v l r,i=>match i with
  |0=>v
  |i+1=>if i % 2 == 0 then l.get (i / 2) else r.get (i / 2)

def Tr.set:Nat->Tr->Nat->aZ->Tr
 |0,t,_,_=>t
 |n+1,t,i,o =>
  match t with
  | .nil=>match i with
   |0=>.node (some o) .nil .nil
   |i+1=>if i % 2 == 0 then .node none (Tr.set n .nil (i / 2) o) .nil else .node none .nil (Tr.set n .nil (i / 2) o)
  | .node v l r=>match i with
   |0=>.node (some o) l r
   |i+1=>if i % 2 == 0 then .node v (Tr.set n l (i / 2) o) r else .node v l (Tr.set n r (i / 2) o)

structure Heap where
 size:Nat
 tr:Tr
 low:Nat
abbrev aO:=Value->Heap->Prop
abbrev aV:=ByteArray
abbrev ai:=Value

def Heap.get (h:Heap) (A:Nat):Option aZ:=if A < h.size then h.tr.get A else none
def Heap.push (h:Heap) (b:aZ):Heap:={ h with size:=h.size+1,tr:=h.tr.set (h.size+1) h.size b }
def Heap.set (h:Heap) (A:Nat) (b:aZ):Heap:={ h with tr:=h.tr.set (A+1) A b,low:=min h.low A }

def G:Nat:=18446744073709551616

abbrev Env:=List ai
def Env.get:Env->Nat->ai
 | [],_=>undef
 |v::_,0=>v
 |_::r,n+1=>Env.get r n
def Env.set:Env->Nat->ai->Env
 | [],_,_=>[]
 |_::r,0,v=>v::r
 |x::r,n+1,v=>x::Env.set r n v

def ld:ai->Bool
 | .bool _ | .int _ _ | .string _ | .nilFunc | .nilIface=>true
 | .pointer none | .map none=>true
 | .slice none n c=>n == 0 && c == 0
 | .func (.func _) f c=>f.isEmpty && c.isEmpty
 |_=>false
def plain:ai->Bool
 | .agg cs=>cs.toList.all ld
 |v=>ld v
def one:ai->Bool
 | .agg _ | .tuple _=>false
 |_=>true

def gd {Z:Type} (P:Program):Sem Z->Option Z
 | .pure a=>some a
 | .program k=>gd P (k P)
 | .mark _ k=>gd P k
 |_=>none

structure bN where
 desc:TypeId->Option TypeDesc
 info:TypeId->Option (Nat × Nat × List ai)
 fn:FuncId->Option Func
 cmp:TypeId->Bool
 zero:TypeId->Option ai
 gs:List Nat
 wI:TypeId->String->Option Method
 HZ:FuncId->Bool

section
variable (P:Program) (T:bN)

def dF (t:TypeId):Option Nat:=(T.info t).map (·.1)
def dw (t:TypeId):Option Bool:=(T.desc t).map fun
 | .struct _ | .array _ _=>true
 |_=>false

def cut (cs:List ai) (o n:Nat):Option (List ai):=if o+n<=cs.length then some ((cs.drop o).take n) else none
def aI (cs:List ai) (o:Nat) (vs:List ai):List ai:=cs.take o++vs++cs.drop (o+vs.length)

def kA (A o n:Nat) (h:Heap):Option (List ai) :=
 match h.get A with
 |some (.row cs _ _)=>cut cs o n
 |_=>none

def hU (t:TypeId) (x:ai) (h:Heap):Option ai :=
 match x with
 | .pointer (some ⟨A,o,none⟩) =>
  (dw T t).bind λg =>
   if g then (dF T t).bind λn=>(kA A o n h).map λl=>.agg l.toArray
   else (kA A o 1 h).bind λl=>l[0]?
 |_=>none

def nQ (A o:Nat) (vs:List ai) (h:Heap):Option Heap :=
 match h.get A with
 |some (.row cs e false)=>if o+vs.length<=cs.length && vs.all one then some (h.set A (.row (aI cs o vs) e false)) else none
 |_=>none

def iQ (t:TypeId) (x v:ai) (h:Heap):Option Heap :=
 match x with
 | .pointer (some ⟨A,o,none⟩)=>(dF T t).bind λn=>if v.cells.size=n then nQ A o v.cells.toList h else none
 |_=>none

def newRow (e:TypeId) (cs:List ai) (h:Heap):ai × Heap:=(.pointer (some ⟨h.size,0,none⟩),h.push (.row cs e false))

def mJ (x:ai) (k:Nat) (h:Heap):Option (List ai) :=
 match x with
 | .slice (some ⟨A,o,none⟩) n _=>if n*k=0 then some [] else kA A o (n*k) h
 | .slice none 0 _=>some []
 |_=>none

def fO (x:ai) (k:Nat) (h:Heap):Option (Nat × List ai) :=
 match x with
 | .string b=>if k=1 then some (b.size,b.data.toList.map λu=>Value.int .u8 u.toNat) else none
 | .slice _ m _=>(mJ x k h).map λl=>(m,l)
 |_=>none

def j4 (t:TypeId) (s x:ai) (h:Heap):Option (ai × Heap) :=
 match T.desc t with
 |some (.slice e)=>(T.info e).bind λ(k,bytes,_) =>
  (fO x k h).bind λ(m,news) =>
  match s with
  | .slice base n c =>
   if m=0 then some (s,h) else
   if k=0 || (n+m)*bytes > 140737488355328 || n+m > 1152921504606846976 || !news.all one then none else
   if n+m<=c % G then
    match base with
    |some ⟨A,o,none⟩=>if c < G || c / G=k then (nQ A (o+n*k) news h).map λh'=>(.slice base (n+m) c,h') else none
    |_=>none
   else
    (mJ s k h).bind λeA =>
    if c < G then some (.slice (some ⟨h.size,0,none⟩) (n+m) (G*k+(n+m)),h.push (.row (eA++news) e false))
    else match base with
     |some ⟨A,_,none⟩=>match h.get A with
      |some (.row _ e' false) =>
       if e'=e && c / G=k then some (.slice (some ⟨h.size,0,none⟩) (n+m) (G*k+(n+m)),(h.set A .dead).push (.row (eA++news) e false)) else none
      |_=>none
     |_=>none
  |_=>none
 |_=>none

def xf (x:ai) (hi:Nat):Option Nat :=
 match x with
 | .int _ i=>if 0<=i/\i<=hi then some i.toNat else none
 |_=>none

def qz (len cap:Nat) (l h m:Option ai):Option (Nat × Nat × Nat) :=
 (match m with|some v=>xf v cap|none=>some cap).bind λm' =>
 (match h,m with|some v,_=>xf v m'|none,none=>some len|none,some _=>none).bind λh' =>
 (match l with|some v=>xf v h'|none=>some 0).bind λl'=>some (l',h',m')

def lf (t:TypeId) (x:ai) (l h m:Option ai):Option ai :=
 match T.desc t,x with
 |some .string,.string s=>if m.isSome then none else (qz s.size s.size l h none).map λ(l',h',_)=>.string (s.extract l' h')
 |some (.array n e),.pointer (some ⟨A,o,none⟩) =>
  (if n < G then qz n n l h m else none).bind λ(l',h',m')=>(dF T e).map λk=>.slice (some ⟨A,if m'=l' then o else o+l'*k,none⟩) (h' - l') (m' - l')
 |some (.slice e),.slice a n c =>
  (dF T e).bind λk =>
  if c < G then
   (qz n c l h m).bind λ(l',h',m')=>match a with
    |some ⟨A,o,none⟩=>some (.slice (some ⟨A,if m'=l' then o else o+l'*k,none⟩) (h' - l') (m' - l'))
    |none=>some (.slice none (h' - l') (m' - l'))
    |_=>none
  else match a with
   |some ⟨A,o,none⟩ =>
    if c / G=k then
     (qz n (c % G) l h m).map λ(l',h',m')=>match m with
      |some _=>.slice (some ⟨A,if m'=l' then o else o+l'*k,none⟩) (h' - l') (m' - l')
      |none=>.slice (some ⟨A,o+l'*k,none⟩) (h' - l') (G*k+(m' - l'))
    else none
   |_=>none
 |_,_=>none

def kF (t:TypeId) (x i:ai):Option ai :=
 match i with
 | .int _ i=>match T.desc t,x with
  |some (.array n e),.pointer (some ⟨A,o,none⟩)=>if 0<=i/\i < n then (dF T e).map λk=>.pointer (some ⟨A,o+i.toNat*k,none⟩) else none
  |some (.slice e),.slice (some ⟨A,o,none⟩) n _=>if 0<=i/\i < n then (dF T e).map λk=>.pointer (some ⟨A,o+i.toNat*k,none⟩) else none
  |_,_=>none
 |_=>none

def mu (s:TypeId) (x:ai) (f:Nat):Option ai :=
 match T.desc s,x with
 |some (.struct fs),.pointer (some ⟨A,o,none⟩) =>
  (fs[f]?).bind λf=>(dF T f.type).bind λn=>if n=0 then none else some (.pointer (some ⟨A,o+f.offset,none⟩))
 |_,_=>none

def An (t:TypeId) (cs:List ai) (o:Nat):Option ai :=
 (dw T t).bind λg=>if g then (dF T t).bind λn=>(cut cs o n).map λl=>.agg l.toArray else cs[o]?

def Pg (t:TypeId) (x:ai) (f:Nat):Option ai :=
 match T.desc t,x with
 |some (.struct fs),.agg cs=>(fs[f]?).bind λf=>An T f.type cs.toList f.offset
 |_,_=>none

def zV (E:TypeId->ai->ai->Option Bool) (xs ys:List ai):List (TypeId × Nat)->Option Bool
 | []=>some true
 |(t,o)::r=>(An T t xs o).bind λa=>(An T t ys o).bind λb=>(E t a b).bind λc=>if c then zV E xs ys r else some false
def Gl:List Field->Option (List (TypeId × Nat))
 | []=>some []
 |f::fs=>if f.name="_" then none else (Gl fs).map λr=>(f.type,f.offset)::r
def Gu (e:TypeId) (k:Nat):Nat->Nat->List (TypeId × Nat)
 |0,_=>[]
 |n+1,i=>(e,i*k)::Gu e k n (i+1)
def dy:Nat->TypeId->ai->ai->Option Bool
 |0,_,_,_=>none
 |d+1,t,x,y=>match T.desc t,x,y with
  |some .bool,.bool a,.bool b=>some (a == b)
  |some (.int _),.int k a,.int k' b=>if k=k' then some (a == b) else none
  |some .string,.string a,.string b=>some (a.data.toList == b.data.toList)
  |some (.struct fs),.agg xs,.agg ys=>if T.cmp t then (Gl fs.toList).bind λps=>zV T (dy d) xs.toList ys.toList ps else none
  |some (.array n e),.agg xs,.agg ys=>(dF T e).bind λk=>zV T (dy d) xs.toList ys.toList (Gu e k n 0)
  |_,_,_=>none

def pZ (place:Nat->Option (Nat × Nat)) (cells:List ai):List (Nat × ai)->Option (List ai)
 | []=>some cells
 |(i,v)::rest=>(place i).bind λ(o,n) =>
  if v.cells.size=n/\o+n<=cells.length then pZ place (aI cells o v.cells.toList) rest else none

def LJ:List Field->Option (List (Nat × Nat))
 | []=>some []
 |f::fs=>(dF T f.type).bind λn=>(LJ fs).map λr=>(f.offset,n)::r

def nP (t:TypeId) (parts:List (Nat × ai)):Option ai :=
 (T.info t).bind λ(_,_,z) =>
 match T.desc t with
 |some (.struct fs)=>(LJ T fs.toList).bind λplaces=>(pZ (λk=>places[k]?) z parts).map λcs=>.agg cs.toArray
 |some (.array _ e)=>(dF T e).bind λk=>(pZ (λi=>some (i*k,k)) z parts).map λcs=>.agg cs.toArray
 |_=>none

def nh (z:List ai) (n:Nat):List ai:=(List.replicate n z).flatten

def wW (t:TypeId) (len:Nat) (parts:List (Nat × ai)) (h:Heap):Option (ai × Heap) :=
 match T.desc t with
 |some (.slice e)=>(T.info e).bind λ(k,_,z) =>
  if len*k > 16777216 || len > 16777216 then none else
  (pZ (λi=>some (i*k,k)) (nh z len) parts).map λcs=>(.slice (some ⟨h.size,0,none⟩) len len,h.push (.row cs e false))
 |_=>none

def Li (t:TypeId) (l c:ai) (h:Heap):Option (ai × Heap) :=
 match T.desc t,l,c with
 |some (.slice e),.int _ l,.int _ c=>(T.info e).bind λ(_,bytes,z) =>
  if 0<=l/\l<=c/\c<=1152921504606846976/\c*bytes<=140737488355328 then
   some (.slice (some ⟨h.size,0,none⟩) l.toNat c.toNat,h.push (.row (nh z c.toNat) e false))
  else none
 |_,_,_=>none

def My (t:TypeId) (d s:ai) (h:Heap):Option (ai × Heap) :=
 match T.desc t,d with
 |some (.slice e),.slice a n _=>(dF T e).bind λk =>
  (fO s k h).bind λ(m,src) =>
  if min m n=0 then some (.int .i64 0,h) else
  match a with
  |some ⟨A,o,none⟩=>(nQ A o (src.take (min m n*k)) h).map λh'=>(.int .i64 (min m n:Nat),h')
  |_=>none
 |_,_=>none

def uy (t:TypeId) (x:ai) (h:Heap):Option Heap :=
 match T.desc t,x with
 |some (.slice e),.slice a n _ =>
  if n=0 then some h else
  (T.info e).bind λ(_,_,z) =>
  match a with
  |some ⟨A,o,none⟩=>nQ A o (nh z n) h
  |_=>none
 |_,_=>none

def Cn (d:TypeDesc) (x y:ai):Option Bool :=
 match d,x,y with
 | .pointer _,.pointer none,.pointer b=>some b.isNone
 | .pointer _,.pointer (some _),.pointer none=>some false
 | .slice _,.slice none _ _,.slice b _ _=>some b.isNone
 | .slice _,.slice (some _) _ _,.slice none _ _=>some false
 | .map _ _,.map none,.map b=>some b.isNone
 | .map _ _,.map (some _),.map none=>some false
 | .func _ _ _,.nilFunc,.nilFunc=>some true
 | .func _ _ _,.nilFunc,.func _ _ _=>some false
 | .func _ _ _,.func _ _ _,.nilFunc=>some false
 |_,_,_=>none

def qy (op:BinOp) (x y:ai):Option ai :=
 match op,x,y with
 | .add,.int k a,.int k' b=>if k=k' then some (.int k (k.wrap (a+b))) else none
 | .sub,.int k a,.int k' b=>if k=k' then some (.int k (k.wrap (a - b))) else none
 | .eql,.int k a,.int k' b=>if k=k' then some (.bool (a == b)) else none
 | .neq,.int k a,.int k' b=>if k=k' then some (.bool (a != b)) else none
 | .lss,.int k a,.int k' b=>if k=k' then some (.bool (a < b)) else none
 | .leq,.int k a,.int k' b=>if k=k' then some (.bool (a<=b)) else none
 | .gtr,.int k a,.int k' b=>if k=k' then some (.bool (a > b)) else none
 | .geq,.int k a,.int k' b=>if k=k' then some (.bool (a >= b)) else none
 |_,_,_=>none

def cE (op:BinOp) (t:TypeId) (x y:ai):Option ai :=
 match qy op x y with
 |some v=>some v
 |none =>
  match (T.desc t).bind λd=>Cn d x y with
  |some b=>(match op with | .eql=>some (.bool b) | .neq=>some (.bool !b)|_=>none)
  |none =>
   if plain x && plain y then
    match x,y with
    | .nilIface,_=>none
    | .agg _,.agg _=>if T.cmp t then (match op with
     | .eql=>(dy T 20 t x y).map λb=>.bool b
     | .neq=>(dy T 20 t x y).map λb=>.bool !b
     |_=>none) else none
    |_,_=>(gd P (binOp op t x y)).bind λv=>if plain v then some v else none
   else none

def bW (t:TypeId) (x:ai) (h:Heap):Option ai :=
 match T.desc t,x with
 |some .string,.string s=>some (.int .i64 s.size)
 |some (.slice _),.slice _ n _=>some (.int .i64 n)
 |some (.map _ _),.map none=>some (.int .i64 0)
 |some (.map _ _),.map (some A)=>(match h.get A with
  |some (.map es _)=>some (.int .i64 es.length)
  |_=>none)
 |_,_=>none

def Ap:ai->ai->Bool
 | .bool a,.bool b=>a == b
 | .int j a,.int k b=>decide (j=k) && a == b
 | .string a,.string b=>a.data.toList == b.data.toList
 |_,_=>false
def GL:List ai->List ai->Bool
 | [],[]=>true
 |x::xs,y::ys=>Ap x y && GL xs ys
 |_,_=>false
def B3:ai->ai->Bool
 | .agg a,.agg b=>GL a.toList b.toList
 |x,y=>Ap x y
def rJ (kt:TypeId) (k:ai):Bool:=if plain k then (match dy T 20 kt k k with|some b=>b|none=>false) else false
def lH (kt:TypeId) (k:ai):List MapEntry->Nat->Option (Option (Nat × ai))
 | [],_=>some none
 |e::es,i=>(dy T 20 kt k e.key).bind λb=>if b then some (some (i,e.val)) else lH kt k es (i+1)
def Fq (x:ai) (h:Heap):Option (List MapEntry) :=
 match x with
 | .map none=>some []
 | .map (some A)=>(match h.get A with|some (.map es _)=>some es|_=>none)
 |_=>none
def uq (t:TypeId) (x k:ai) (ok:Bool) (h:Heap):Option ai :=
 match T.desc t with
 |some (.map kt et) =>
  if rJ T kt k then
   (Fq x h).bind λes=>(lH T kt k es 0).bind λr=>(match r with
    |some (_,v)=>some (v,true)
    |none=>(T.zero et).map λz=>(z,false)).map λ(v,b)=>if ok then .tuple #[v,.bool b] else v
  else none
 |_=>none
def nN (t:TypeId) (x k v:ai) (h:Heap):Option Heap :=
 match T.desc t,x with
 |some (.map kt _),.map (some A)=>(match h.get A with
  |some (.map es clock) =>
   if rJ T kt k then
    (lH T kt k es 0).bind λr=>match r with
     |some (i,_)=>(es[i]?).bind λe=>if B3 e.key k then some (h.set A (.map (es.modify i λe=>{ e with key:=k,val:=v }) clock)) else none
     |none=>some (h.set A (.map (es++[{ key:=k,val:=v,born:=clock }]) (clock+1)))
   else none
  |_=>none)
 |_,_=>none

def bE (e:Env):Operand->ai
 | .tmp t=>e.get t
 | .const v=>v
 | .global g=>.pointer (some ⟨g,0,none⟩)
 | .func f=>.func (.func f) #[] #[]

def LS (t:TypeId) (x k:ai) (h:Heap):Option Heap :=
 match T.desc t,x with
 |some (.map kt _),.map none=>if rJ T kt k then some h else none
 |some (.map kt _),.map (some A)=>(match h.get A with
  |some (.map es clock) =>
   if rJ T kt k then
    (lH T kt k es 0).bind λr=>match r with
     |some (i,_)=>some (h.set A (.map (es.eraseIdx i) clock))
     |none=>some (h.set A (.map es clock))
   else none
  |_=>none)
 |_,_=>none

def Mj (t:TypeId) (x k:ai) (h:Heap):Option (ai × Heap) :=
 match T.desc t,x with
 |some (.map kt et),.map (some A)=>(match h.get A with
  |some (.map es clock) =>
   if rJ T kt k then
    (lH T kt k es 0).bind λr=>match r with
     |some (i,v)=>(es[i]?).bind λe=>if B3 e.key k then some (.tuple #[v,.int .i64 e.born],h.set A (.map (es.modify i λe=>{ e with key:=k }) clock)) else none
     |none=>(T.zero et).map λz=>(.tuple #[z,.int .i64 clock],h.set A (.map (es++[{ key:=k,val:=z,born:=clock }]) (clock+1)))
   else none
  |_=>none)
 |_,_=>none
def O9 (s:Int):List MapEntry->Nat->Option Nat
 | [],_=>none
 |e::es,i=>if (e.born:Int)=s then some i else O9 s es (i+1)
def Ld (x s v:ai) (h:Heap):Option Heap :=
 match x,s with
 | .map (some A),.int _ b=>(match h.get A with
  |some (.map es clock)=>(O9 b es 0).map λi=>h.set A (.map (es.modify i λe=>{ e with val:=v }) clock)
  |_=>none)
 |_,_=>none

def Xt (t:TypeId) (x:ai):Option ai:=match T.desc t with
 |some (.interface _)=>none
 |some _=>some (.iface t x)
 |none=>none
def WZ (x:ai) (asserted:TypeId) (ok:Bool):Option ai:=match T.desc asserted with
 |some (.interface _)=>none
 |some _=>(match x with
  | .iface t v=>if t=asserted then some (if ok then .tuple #[v,.bool true] else v) else if ok then (T.zero asserted).map λz=>.tuple #[z,.bool false] else none
  | .nilIface=>if ok then (T.zero asserted).map λz=>.tuple #[z,.bool false] else none
  |_=>none)
 |none=>none
inductive fX where
 |val (v:ai)
 |var (p:ai)
def fX.get (t:TypeId) (h:Heap):fX->Option ai
 | .val v=>some v
 | .var p=>hU T t p h
def GP (h:Heap):List FieldStep->TypeId->fX->Option (TypeId × fX)
 | [],t,x=>some (t,x)
 |s::rest,t,x=>match T.desc s.struct with
  |some (.struct fs)=>(fs[s.index]?).bind λf =>
   if s.deref then (x.get T t h).bind λp=>(mu T s.struct p s.index).bind λq=>GP h rest f.type (.var q)
   else match x with
    | .var p=>(mu T s.struct p s.index).bind λq=>GP h rest f.type (.var q)
    | .val (.agg cs)=>(An T f.type cs.toList f.offset).bind λv=>GP h rest f.type (.val v)
    |_=>none
  |_=>none
def We (xt:TypeId) (x:fX) (ptr:Bool) (h:Heap):Option ai :=
 match T.desc xt,ptr,x with
 |some (.pointer _),true,x=>x.get T xt h
 |some (.pointer elem),false,x=>(x.get T xt h).bind λp=>hU T elem p h
 |some _,true,.var p=>(match p with | .pointer (some a)=>some (.pointer (some a))|_=>none)
 |some _,false,x=>x.get T xt h
 |_,_,_=>none
def O0 (t:TypeId) (v:ai) (name:String) (h:Heap):Option (FuncId × ai) :=
 (T.wI t name).bind λm=>(GP T h m.path.toList t (.val v)).bind λ(xt,x)=>match m.func with
  |some (f,ptr)=>(We T xt x ptr h).map λr=>(f,r)
  |none=>none

def Mb:List ai->Option (List UInt8)
 | []=>some []
 | .int .u8 n::l=>(Mb l).map (UInt8.ofNat n.toNat::·)
 |_=>none
def OE (s d:TypeId) (x:ai) (h:Heap):Option ai :=
 match T.desc s,T.desc d,x with
 |some (.slice e),some .string,.slice _ _ _=>(match T.desc e with
  |some (.int .u8)=>(mJ x 1 h).bind λl=>(Mb l).map λbs=>.string ⟨bs.toArray⟩
  |_=>none)
 |_,_,_=>none
def GF (d:TypeId) (x:ai) (h:Heap):Option (ai × Heap) :=
 match T.desc d,x with
 |some (.slice e),.string b=>(match T.desc e,T.info e with
  |some (.int .u8),some (1,_,_)=>if b.size > 1152921504606846976\/e≠5 then none else some (.slice (some ⟨h.size,0,none⟩) b.size (G*1+b.size),h.push (.row (b.data.toList.map λu=>Value.int .u8 u.toNat) e false))
  |_,_=>none)
 |_,_=>none
def OM (t:TypeId):Bool:=match T.desc t with
 |some .string=>true
 |_=>false
def sg (t:TypeId):Bool:=match T.desc t with
 |some (.slice _)=>true
 |_=>false
def CI (t:TypeId) (x:ai):Option ai :=
 match T.desc t,x with
 |some (.slice _),.slice _ _ c=>if c < G then some (.int .i64 c) else none
 |_,_=>none

def gD (e:Env) (o:Oper) (h:Heap):Option (ai × Heap) :=
 if o.op.operands.toList.all λx=>plain (bE e x) then
  match gd P (execOp (bE e) o) with
  |some (.value v)=>if plain v then some (v,h) else none
  |_=>none
 else none

def tJ (t u:TypeId):Bool:=u == t || (match T.desc u with|some .string|some (.slice _)=>true|_=>false)

variable (C:Fn->List ai->Heap->Option (ai × Heap))

def iq (e:Env) (o:Oper) (h:Heap):Option (ai × Heap) :=
 let v:=bE e
 match o.op with
 | .move x=>some (v x,h)
 | .assign x=>some (v x,h)
 | .pick c a b=>match v c with | .bool t=>some (if t then v a else v b,h)|_=>none
 | .alloc t=>(T.info t).map λ(_,_,z)=>newRow t z h
 | .box t x=>some (newRow t (v x).cells.toList h)
 | .build t ps=>(nP T t (ps.toList.map λ(i,x)=>(i,v x))).map λr=>(r,h)
 | .buildSlice t n ps=>wW T t n (ps.toList.map λ(i,x)=>(i,v x)) h
 | .load t a=>(hU T t (v a) h).map λr=>(r,h)
 | .store t a x=>(iQ T t (v a) (v x) h).map λh'=>(undef,h')
 | .nilCheck x=>match v x with
  | .pointer (some a)=>some (.pointer (some a),h)
  | .func (.func f) a b=>some (.func (.func f) a b,h)
  | .iface t a=>some (.iface t a,h)
  |_=>none
 | .binOp op t x y _=>(cE P T op t (v x) (v y)).map λr=>(r,h)
 | .makeFunc fn first captured=>match fn with | .func f=>some (.func (.func f) (first.map v) (captured.map v),h)|_=>none
 | .makeSlice t l c=>Li T t (v l) (v c) h
 | .slice t x l hi m=>(lf T t (v x) (l.map v) (hi.map v) (m.map v)).map λr=>(r,h)
 | .fieldAddr s x f=>(mu T s (v x) f).map λr=>(r,h)
 | .field t x f=>(Pg T t (v x) f).map λr=>(r,h)
 | .indexAddr t x i=>(kF T t (v x) (v i)).map λr=>(r,h)
 | .extract t i=>match v t with | .tuple vs=>(vs[i]?).map λr=>(r,h)|_=>none
 | .unOp _ _ _=>gD P e o h
 | .convert s d x=>if sg T s then (OE T s d (v x) h).map λr=>(r,h) else if sg T d then (if OM T s then GF T d (v x) h else none) else gD P e o h
 | .index _ _ _=>gD P e o h
 | .call c=>match c.callee with
  | .builtin .append=>match c.argTypes.toList,c.args.toList with
   | [t,u],[s,x]=>if tJ T t u then j4 T t (v s) (v x) h else none
   |_,_=>none
  | .builtin .copy=>match c.argTypes.toList,c.args.toList with
   | [t,_],[d,s]=>My T t (v d) (v s) h
   |_,_=>none
  | .builtin .clear=>match c.argTypes.toList,c.args.toList with
   | [t],[x]=>(uy T t (v x) h).map λh'=>(undef,h')
   |_,_=>none
  | .builtin .len=>match c.argTypes.toList,c.args.toList with
   |t::_,[x]=>(bW T t (v x) h).map λr=>(r,h)
   |_,_=>none
  | .builtin .min=>gD P e o h
  | .builtin .max=>gD P e o h
  | .builtin .delete=>match c.argTypes.toList,c.args.toList with
   |t::_,[m,k]=>(LS T t (v m) (v k) h).map λh'=>(undef,h')
   |_,_=>none
  | .builtin .cap=>match c.argTypes.toList,c.args.toList with
   |t::_,[x]=>(CI T t (v x)).map λr=>(r,h)
   |_,_=>none
  | .invoke r name=>match v r with
   | .iface t x=>(O0 T t x name h).bind λ(f,y)=>C (.func f) (y::c.args.toList.map v) h
   |_=>none
  | .value f=>match v f with
   | .func (.func f) first captured=>C (.func f) (first.toList++c.args.toList.map v++captured.toList) h
   | .func (.yield A) first captured=>if first.isEmpty && captured.isEmpty then C (.yield A) (c.args.toList.map v) h else none
   |_=>none
  |_=>none
 | .makeMap t r=>match r with
  |none=>some (.map (some h.size),h.push (.map [] 0))
  |some x=>(match T.desc t,v x with
   |some (.map _ _),.int _ _=>some (.map (some h.size),h.push (.map [] 0))
   |_,_=>none)
 | .lookup t x k ok=>(uq T t (v x) (v k) ok h).map λr=>(r,h)
 | .mapUpdate t m k x=>(nN T t (v m) (v k) (v x) h).map λh'=>(undef,h')
 | .insert t m k x=>(nN T t (v m) (v k) (v x) h).map λh'=>(undef,h')
 | .mapEntry t m k=>Mj T t (v m) (v k) h
 | .entryStore _ m s x=>(Ld (v m) (v s) (v x) h).map λh'=>(undef,h')
 | .makeInterface t x=>(Xt T t (v x)).map λr=>(r,h)
 | .typeAssert x _ t ok=>(WZ T (v x) t ok).map λr=>(r,h)
 |_=>none

def mI (ops:Array Oper) (o:Oper) (e:Env):Bool :=
 match o.guard with
 |none=>true
 |some (j,b)=>match (ops[j]?).bind (·.dst) with
  |some t=>(match e.get t with | .bool c=>c == b|_=>false)
  |none=>false

def put (e:Env) (d:Option Tmp) (v:ai):Env:=match d with
 |some d=>e.set d v
 |none=>e

def rE (ops:Array Oper):List Oper->Env->Heap->Option (Env × Heap)
 | [],e,h=>some (e,h)
 |o::rest,e,h =>
  if mI ops o e then
   match iq P T C e o h with
   |some (v,h')=>rE ops rest (put e o.dst v) h'
   |none=>none
  else rE ops rest (put e o.dst undef) h

inductive Ex where
 |normal
 |exit (id:Nat)
 |ret

def iter (f:Env->Heap->Option (Ex × Env × Heap)):Nat->Env->Heap->Option (Ex × Env × Heap)
 |0,_,_=>none
 |n+1,e,h=>match f e h with
  |some (.normal,e',h')=>iter f n e' h'
  |r=>r

variable (D:Array Oper->Env->Heap->Option (Env × Heap))

def Ws (rd:Option Nat) (h:Heap):Bool:=match rd with
 |none=>true
 |some A=>(match h.get A with|some (.loop ..)=>true|_=>false)
def Gd (l:Nat) (e:Env) (h:Heap):Option (Ex × Env × Heap) :=
 match h.get l with
 |some (.loop env ps assign body st fF)=>(match st with
  | .busy=>none
  |_=>(match fF with
   |none=>some (.normal,e,h.set l (.loop env ps assign body .exhausted fF))
   |some (.exit id)=>some (.exit id,e,h.set l (.loop env ps assign body .exhausted fF))
   |some .ret=>some (.ret,e,h.set l (.loop env ps assign body .exhausted fF))
   |_=>none))
 |_=>none
def Xe (f:FuncId):Bool:=match T.fn f with
 |some fn=>(match fn.body with|some _=>true|none=>false)
 |none=>false
def GY (rd:Option Nat) (g:ai) (ps:List Tmp) (assign body:Code) (e:Env) (h:Heap):Option (Ex × Env × Heap) :=
 match g with
 | .func (.func f) first captured =>
  if Ws rd h && Xe T f then
   match C (.func f) (first.toList++[.func (.yield h.size) #[] #[]]++captured.toList) (h.push (.loop e ps assign body .ready none)) with
   |some (_,h2)=>Gd h.size e h2
   |none=>none
  else none
 |_=>none

def dL (rd:Option Nat) (fuel:Nat):Code->Env->Heap->Option (Ex × Env × Heap)
 | .skip,e,h=>some (.normal,e,h)
 | .region _ ops d,e,h=>(if d then D ops e h else rE P T C ops ops.toList e h).map λ(e',h')=>(.normal,e',h')
 | .seq a b,e,h=>match dL rd fuel a e h with
  |some (.normal,e',h')=>dL rd fuel b e' h'
  |r=>r
 | .cond c a b,e,h=>match bE e c with
  | .bool true=>dL rd fuel a e h
  | .bool false=>dL rd fuel b e h
  |_=>none
 | .block id c,e,h=>match dL rd fuel c e h with
  |some (.exit i,e',h')=>if i=id then some (.normal,e',h') else some (.exit i,e',h')
  |r=>r
 | .loop c,e,h=>iter (dL rd fuel c) fuel e h
 | .scope c,e,h=>dL rd fuel c e h
 | .rangeFunc g ps assign body,e,h=>GY T C rd (bE e g) ps.toList assign body e h
 | .exit id,e,h=>some (.exit id,e,h)
 | .ret,e,h=>some (.ret,e,h)
 | .label _,e,h=>some (.normal,e,h)
 |_,_,_=>none

def tE (e:Env) (h:Heap):ResultVar->Option ai
 | .tmp t=>some (e.get t)
 | .cell a t=>hU T t (e.get a) h

def nc (fn:Func) (e:Env) (h:Heap):Option ai :=
 match fn.results.toList with
 | [r]=>tE T e h r
 |rs=>(rs.mapM (tE T e h)).map λvs=>.tuple vs.toArray
end

def Lr (gs:List Nat):Operand->Bool
 | .const v=>plain v
 | .global g=>gs.contains g
 |_=>true
def J8 (gs:List Nat) (o:Oper):Bool:=o.op.operands.toList.all (Lr gs)
def qA (gs:List Nat):Code->Bool
 | .region _ ops _=>ops.toList.all (J8 gs)
 | .seq a b=>qA gs a && qA gs b
 | .cond c a b=>Lr gs c && qA gs a && qA gs b
 | .block _ c=>qA gs c
 | .loop c=>qA gs c
 | .scope c=>qA gs c
 | .rangeFunc g _ a b=>Lr gs g && qA gs a && qA gs b
 |_=>true
end Go.Am
namespace Go.Am
open Go.RowKit
variable {h:Heap} {u v x:ai} {l m:List ai} {w:World}

theorem Tr.get_nil (i:Nat):Tr.get .nil i=none:=by cases i <;> rfl

theorem Tr.aH:∀ (n:Nat) (t:Tr) (i j:Nat) (o:aZ),i < n->(Tr.set n t i o).get j=if j=i then some o else t.get j
 |0,_,_,_,_,h=>by omega
 |n+1,t,i,j,o,h=>by
  cases t with
  |nil =>
   cases i with
   |zero=>cases j with
    |zero=>simp [Tr.set,Tr.get]
    |succ j=>simp [Tr.set,Tr.get]
   |succ i =>
    have hi:i / 2 < n:=by omega
    by_cases he:i % 2=0
    .cases j with
     |zero=>simp [Tr.set,Tr.get,he]
     |succ j =>
      by_cases hj:j % 2=0
      .simp only [Tr.set,Tr.get,he,hj,beq_self_eq_true,if_true,Tr.aH n .nil (i / 2) (j / 2) o hi]
       by_cases e:j=i
       .subst e;simp
       .rw [aA (by omega),aA (by omega)]
      .have yU:(j % 2 == 0)=false:=by simpa using hj
       simp only [Tr.set,Tr.get,he,yU,beq_self_eq_true,if_true,gH,if_false]
       rw [aA (by intro e;apply hj;have:j=i:=by omega
                  subst this;exact he)]
    .have yL:(i % 2 == 0)=false:=by simpa using he
     cases j with
     |zero=>simp [Tr.set,Tr.get,yL]
     |succ j =>
      by_cases hj:j % 2=0
      .simp only [Tr.set,Tr.get,yL,hj,beq_self_eq_true,if_true,gH,if_false]
       rw [aA (by intro e;apply he;have:j=i:=by omega
                  subst this;exact hj)]
      .have yU:(j % 2 == 0)=false:=by simpa using hj
       simp only [Tr.set,Tr.get,yL,yU,gH,if_false,Tr.aH n .nil (i / 2) (j / 2) o hi]
       by_cases e:j=i
       .subst e;simp
       .rw [aA (by omega),aA (by omega)]
  |node v l r =>
   cases i with
   |zero=>cases j with
    |zero=>simp [Tr.set,Tr.get]
    |succ j=>simp [Tr.set,Tr.get]
   |succ i =>
    have hi:i / 2 < n:=by omega
    by_cases he:i % 2=0
    .cases j with
     |zero=>simp [Tr.set,Tr.get,he]
     |succ j =>
      by_cases hj:j % 2=0
      .simp only [Tr.set,Tr.get,he,hj,beq_self_eq_true,if_true,Tr.aH n l (i / 2) (j / 2) o hi]
       by_cases e:j=i
       .subst e;simp
       .rw [aA (by omega),aA (by omega)]
      .have yU:(j % 2 == 0)=false:=by simpa using hj
       simp only [Tr.set,Tr.get,he,yU,beq_self_eq_true,if_true,gH,if_false]
       rw [aA (by intro e;apply hj;have:j=i:=by omega
                  subst this;exact he)]
    .have yL:(i % 2 == 0)=false:=by simpa using he
     cases j with
     |zero=>simp [Tr.set,Tr.get,yL]
     |succ j =>
      by_cases hj:j % 2=0
      .simp only [Tr.set,Tr.get,yL,hj,beq_self_eq_true,if_true,gH,if_false]
       rw [aA (by intro e;apply he;have:j=i:=by omega
                  subst this;exact hj)]
      .have yU:(j % 2 == 0)=false:=by simpa using hj
       simp only [Tr.set,Tr.get,yL,yU,gH,if_false,Tr.aH n r (i / 2) (j / 2) o hi]
       by_cases e:j=i
       .subst e;simp
       .rw [aA (by omega),aA (by omega)]

theorem Heap.size_push (h:Heap) (b:aZ):(h.push b).size=h.size+1:=rfl
theorem Heap.size_set (h:Heap) (A:Nat) (b:aZ):(h.set A b).size=h.size:=rfl
theorem Heap.eO (h:Heap) (b:aZ):(h.push b).low=h.low:=rfl
theorem Heap.cA (h:Heap) (A:Nat) (b:aZ):(h.set A b).low=min h.low A:=rfl
theorem Heap.bH (h:Heap) (b:aZ) (j:Nat):(h.push b).get j=if j=h.size then some b else h.get j:=by
 simp only [Heap.get,Heap.push,Tr.aH _ _ _ _ _ (nj _)]
 by_cases e:j=h.size
 .subst e;simp
 .by_cases hl:j < h.size
  .rw [aB (by omega),aA e,aB hl,aA e]
  .rw [aA (by omega),aA e,aA hl]
theorem Heap.aH (h:Heap) (A:Nat) (b:aZ) (j:Nat) (hA:A < h.size):(h.set A b).get j=if j=A then some b else h.get j:=by
 simp only [Heap.get,Heap.set,Tr.aH _ _ _ _ _ (nj _)]
 by_cases e:j=A
 .subst e;simp [hA]
 .by_cases hl:j < h.size
  .rw [aB hl,aA e,aB hl,aA e]
  .rw [aA hl,aA e,aA hl]
theorem Heap.ao {A:Nat} {b:aZ} (hb:h.get A=some b):A < h.size:=by
 unfold Heap.get at hb
 split at hb
 .assumption
 .cases hb

theorem Env.length_set:∀ (e:Env) (i:Nat) (v:ai),(Env.set e i v).length=e.length
 | [],_,_=>rfl
 |_::_,0,_=>rfl
 |x::r,n+1,v=>by simp [Env.set,Env.length_set r n v]
theorem Env.aH:∀ (e:Env) (i j:Nat) (v:ai),(Env.set e i v).get j=if j=i/\i < e.length then v else e.get j
 | [],_,_,_=>by simp [Env.set,Env.get]
 |x::r,0,j,v=>by cases j <;> simp [Env.set,Env.get]
 |x::r,i+1,j,v=>by
  cases j with
  |zero=>simp [Env.set,Env.get]
  |succ j=>simp [Env.set,Env.get,Env.aH r i j v]
theorem Env.np:∀ (e:Env) (i:Nat),e.length<=i->e.get i=undef
 | [],_,_=>by simp [Env.get]
 |_::r,i+1,h=>by simp only [Env.get];exact Env.np r i (by simpa using h)
 |_::_,0,h=>by simp at h
theorem Env.get_eq:∀ (e:Env) (i:Nat),e.get i=(e[i]?).getD undef
 | [],_=>by simp [Env.get]
 |_::_,0=>by simp [Env.get]
 |_::r,i+1=>by simp [Env.get,Env.get_eq r i]

structure Loc where
 b:Nat
 s:Nat
 zE:Nat

abbrev ct:=Nat->Option Loc

inductive VR (ρ:ct):ai->ai->Prop where
 |bool (b:Bool):VR ρ (.bool b) (.bool b)
 |int (k:IntKind) (n:Int):VR ρ (.int k n) (.int k n)
 |string (s:aV):VR ρ (.string s) (.string s)
 |oK:VR ρ (.pointer none) (.pointer none)
 |ptr {A o:Nat} {L:Loc} (h:ρ A=some L):VR ρ (.pointer (some ⟨A,o,none⟩)) (.pointer (some ⟨L.b,L.s+o,none⟩))
 |dD:VR ρ (.slice none 0 0) (.slice none 0 0)
 |slice {A o n c:Nat} {L:Loc} {ad:Addr} (h:ρ A=some L) (hc:c < G) (hn:n<=c) (fK:c≠0->ad=⟨L.b,L.s+o,none⟩):VR ρ (.slice (some ⟨A,o,none⟩) n c) (.slice (some ad) n c)
 |cW {A o n c c':Nat} {L:Loc} {ad:Addr} (h:ρ A=some L) (hc:G<=c) (gx:c % G<=c') (hn:n<=c % G) (hk:0 < c / G)
  (hm:c'<=maxLen) (fK:c'≠0->ad=⟨L.b,L.s+o,none⟩/\L.s+o+c'*(c / G)<=L.zE):VR ρ (.slice (some ⟨A,o,none⟩) n c) (.slice (some ad) n c')
 |oI:VR ρ (.map none) (.map none)
 |nilFunc:VR ρ .nilFunc .nilFunc
 |map {A:Nat} {L:Loc} (h:ρ A=some L):VR ρ (.map (some A)) (.map (some L.b))
 |yield {A:Nat} {L:Loc} (h:ρ A=some L):VR ρ (.func (.yield A) #[] #[]) (.func (.yield L.b) #[] #[])
 |func (fn:FuncId) {f g c d:Array ai} (hf:f.size=g.size) (hc:c.size=d.size) (h1:∀ (i:Nat) (x y:ai),f[i]? = some x->g[i]? = some y->VR ρ x y)
  (h2:∀ (i:Nat) (x y:ai),c[i]? = some x->d[i]? = some y->VR ρ x y):VR ρ (.func (.func fn) f c) (.func (.func fn) g d)
 |nilIface:VR ρ .nilIface .nilIface
 |iface (t:TypeId) {x y:ai} (h:VR ρ x y):VR ρ (.iface t x) (.iface t y)
 |agg {c d:Array ai} (hc:c.size=d.size) (h:∀ (i:Nat) (x y:ai),c[i]? = some x->d[i]? = some y->VR ρ x y):VR ρ (.agg c) (.agg d)
 |tuple {c d:Array ai} (hc:c.size=d.size) (h:∀ (i:Nat) (x y:ai),c[i]? = some x->d[i]? = some y->VR ρ x y):VR ρ (.tuple c) (.tuple d)

theorem VR.mono {ρ ρ':ct} (hg:∀ A L,ρ A=some L->ρ' A=some L) (h:VR ρ v u):VR ρ' v u:=by
 induction h with
 |bool b=>exact .bool b
 |int k n=>exact .int k n
 |string s=>exact .string s
 |oK=>exact .oK
 |ptr h=>exact .ptr (hg _ _ h)
 |dD=>exact .dD
 |slice h hc hn fK=>exact .slice (hg _ _ h) hc hn fK
 |cW h hc gx hn hk hm fK=>exact .cW (hg _ _ h) hc gx hn hk hm fK
 |oI=>exact .oI
 |map h=>exact .map (hg _ _ h)
 |yield h=>exact .yield (hg _ _ h)
 |nilFunc=>exact .nilFunc
 |func fn hf hc h1 h2 i1 i2=>exact .func fn hf hc i1 i2
 |nilIface=>exact .nilIface
 |iface t h ih=>exact .iface t ih
 |agg hc h ih=>exact .agg hc ih
 |tuple hc h ih=>exact .tuple hc ih

theorem VR.undef (ρ:ct):VR ρ undef undef:=.tuple rfl (by intro i x y hx;simp at hx)

theorem VR.ku (ρ:ct) (h:ld v=true):VR ρ v v:=by
 cases v with
 |bool b=>exact .bool b
 |int k n=>exact .int k n
 |string s=>exact .string s
 |pointer a=>cases a with
  |none=>exact .oK
  |some a=>simp [ld] at h
 |slice a n c=>cases a with
  |none =>
   simp [ld] at h
   obtain ⟨rfl,rfl⟩:=h
   exact .dD
  |some a=>simp [ld] at h
 |map r=>cases r with
  |none=>exact .oI
  |some r=>simp [ld] at h
 |func fn f c =>
  cases fn with
  |func fn =>
   simp [ld] at h
   obtain ⟨rfl,rfl⟩:=h
   exact .func fn rfl rfl (by intro i x y hx;simp at hx) (by intro i x y hx;simp at hx)
  |_=>simp [ld] at h
 |nilFunc=>exact .nilFunc
 |nilIface=>exact .nilIface
 |_=>simp [ld] at h

theorem VR.nn {ρ:ct} (hv:VR ρ v u) (h:ld v=true):u=v:=by
 cases hv with
 |func fn hf hc h1 h2 =>
  simp [ld] at h
  obtain ⟨rfl,rfl⟩:=h
  have e1:∀ (a:Array ai),(#[]:Array ai).size=a.size->a=#[]:=λa ha=>Array.eq_empty_of_size_eq_zero (by simpa using ha.symm)
  rw [e1 _ hf,e1 _ hc]
 |_=>first|rfl|simp [ld] at h

theorem VR.dj (ρ:ct) (h:plain v=true):VR ρ v v:=by
 cases v with
 |agg cs =>
  refine .agg rfl λi x y hx hy=>?_
  have e:x=y:=by rw [hx] at hy;exact Option.some.inj hy
  subst e
  simp only [plain,jE] at h
  exact .ku ρ (h x (by simpa using Array.mem_of_getElem? hx))
 |_=>exact .ku ρ h

theorem VR.bG {ρ:ct} (hv:VR ρ v u) (h:plain v=true):u=v:=by
 cases hv with
 |agg hc hh =>
  rename_i c d
  congr 1
  refine Array.ext hc.symm λi h1 h2=>?_
  simp only [plain,jE] at h
  have hx:c[i]? = some c[i]:=GN h2
  exact (hh i _ _ hx (GN h1)).nn (h _ (by simp))
 |tuple hc hh=>simp [plain,ld] at h
 |func fn hf hc h1 h2=>exact (VR.func fn hf hc h1 h2).nn h
 |_=>first|rfl|(simp [plain,ld] at h;done)

theorem VR.one {ρ:ct} {v u:ai} (hv:VR ρ v u) (h:one v=true):u.oneCell'=true:=by
 cases hv <;> first|rfl|simp [Am.one] at h

def cz (ρ:ct) (l m:List ai):Prop:=l.length=m.length/\∀ (i:Nat) (x y:ai),l[i]? = some x->m[i]? = some y->VR ρ x y

theorem cz.nil (ρ:ct):cz ρ [] []:=⟨rfl,by intro i x y hx;simp at hx⟩
theorem cz.cons {ρ:ct} {y:ai} (h:VR ρ x y) (hl:cz ρ l m):cz ρ (x::l) (y::m) :=
 ⟨by simp [hl.1],λi a b ha hb=>by
  cases i with
  |zero=>simp at ha hb;subst ha hb;exact h
  |succ i=>exact hl.2 i a b (by simpa using ha) (by simpa using hb)⟩
theorem cz.of_cons {ρ:ct} (h:cz ρ (x::l) m):∃ y m',m=y::m'/\VR ρ x y/\cz ρ l m':=by
 cases m with
 |nil=>have:=h.1;simp at this
 |cons y m =>
  exact ⟨y,m,rfl,h.2 0 x y rfl rfl,by have:=h.1;simpa using this,λi a b ha hb=>h.2 (i+1) a b (by simpa using ha) (by simpa using hb)⟩
theorem cz.of_nil {ρ:ct} (h:cz ρ [] m):m=[]:=by
 have:=h.1
 simp at this
 exact LA this.symm
theorem cz.mono {ρ ρ':ct} (hg:∀ A L,ρ A=some L->ρ' A=some L) {l m:List ai} (h:cz ρ l m):cz ρ' l m:=⟨h.1,λi x y hx hy=>(h.2 i x y hx hy).mono hg⟩
theorem cz.append {ρ:ct} {l' m':List ai} (h:cz ρ l m) (h':cz ρ l' m'):cz ρ (l++l') (m++m'):=by
 induction l generalizing m with
 |nil=>rw [h.of_nil];exact h'
 |cons x l ih =>
  obtain ⟨y,m1,rfl,hx,hl⟩:=h.of_cons
  exact .cons hx (ih hl)
theorem cz.take {ρ:ct} {l m:List ai} (h:cz ρ l m) (n:Nat):cz ρ (l.take n) (m.take n):=by
 refine ⟨by simp [h.1],λi x y hx hy=>?_⟩
 rw [qF] at hx hy
 split at hx
 .rename_i hi;rw [aB hi] at hy;exact h.2 i x y hx hy
 .cases hx
theorem cz.drop {ρ:ct} {l m:List ai} (h:cz ρ l m) (n:Nat):cz ρ (l.drop n) (m.drop n) :=
 ⟨by simp [h.1],λi x y hx hy=>h.2 (n+i) x y (by simpa using hx) (by simpa using hy)⟩
theorem cz.aI {ρ:ct} {l m l' m':List ai} (h:cz ρ l m) (o:Nat) (h':cz ρ l' m'):cz ρ (aI l o l') (aI m o m'):=by
 unfold Am.aI
 rw [<- h'.1]
 exact ((h.take o).append h').append (h.drop _)
theorem cz.cut {ρ:ct} {l m c:List ai} (h:cz ρ l m) {o n:Nat} (hc:cut l o n=some c):∃ d,cut m o n=some d/\cz ρ c d:=by
 unfold Am.cut at hc ⊢
 split at hc
 .rename_i hl
  rw [aB (by rw [<- h.1];exact hl)]
  cases hc
  exact ⟨_,rfl,(h.drop o).take n⟩
 .cases hc
theorem cz.get {ρ:ct} (h:cz ρ l m) {i:Nat} (hx:l[i]? = some x):∃ y,m[i]? = some y/\VR ρ x y:=by
 have hi:i < l.length:=(fR.1 hx).1
 have hy:m[i]? = some (m[i]'(by rw [<- h.1];exact hi)):=gG _
 exact ⟨_,hy,h.2 i x _ hx hy⟩
theorem cz.plain (ρ:ct) (h:l.all ld=true):cz ρ l l:=by
 refine ⟨rfl,λi x y hx hy=>?_⟩
 rw [hx] at hy
 cases hy
 exact .ku ρ (jE.1 h x (ek hx))
theorem cz.one {ρ:ct} {l m:List ai} (h:cz ρ l m) (h1:l.all one=true):∀ v∈m,v.oneCell'=true:=by
 intro v hv
 obtain ⟨i,hi⟩:=E6 hv
 have hl:i < l.length:=by rw [h.1];exact (fR.1 hi).1
 exact (h.2 i _ v (gG hl) hi).one (jE.1 h1 _ (List.getElem_mem hl))
theorem cz.toArray {ρ:ct} {l m:List ai} (h:cz ρ l m):VR ρ (.agg l.toArray) (.agg m.toArray) :=
 .agg (by simp [h.1]) (λi x y hx hy=>h.2 i x y (by simpa using hx) (by simpa using hy))
theorem cz.i0 {ρ:ct} (h:cz ρ l m):VR ρ (.tuple l.toArray) (.tuple m.toArray) :=
 .tuple (by simp [h.1]) (λi x y hx hy=>h.2 i x y (by simpa using hx) (by simpa using hy))
theorem VR.Ct {ρ:ct} {c d:Array ai} (h:VR ρ (.agg c) (.agg d)):cz ρ c.toList d.toList:=by
 cases h with
 |agg hc hh=>exact ⟨by simpa using hc,λi x y hx hy=>hh i x y (by simpa using hx) (by simpa using hy)⟩
theorem VR.cells {ρ:ct} {v u:ai} (h:VR ρ v u):cz ρ v.cells.toList u.cells.toList:=by
 cases h with
 |agg hc hh=>exact (VR.agg hc hh).Ct
 |_=>exact .cons (by first|exact .bool _|exact .int _ _|exact .string _|exact .oK|exact .ptr ‹_› | exact .dD|exact .slice ‹_› ‹_› ‹_› ‹_› | exact .cW ‹_› ‹_› ‹_› ‹_› ‹_› ‹_› ‹_› | exact .oI|exact .map ‹_› | exact .yield ‹_› | exact .nilFunc|exact .func _ ‹_› ‹_› ‹_› ‹_› | exact .nilIface|exact .iface _ ‹_› | exact .tuple ‹_› ‹_›) (.nil ρ)

def cd (ρ:ct) (e:Env) (tmps:Array ai):Prop:=e.length=tmps.size/\∀ i,VR ρ (e.get i) (tmps.getD i undef)
theorem cd.mono {ρ ρ':ct} {e:Env} {tmps:Array ai} (he:cd ρ e tmps) (hg:∀ A L,ρ A=some L->ρ' A=some L):cd ρ' e tmps:=⟨he.1,λi=>(he.2 i).mono hg⟩
def lL (ρ:ct) (l m:List MapEntry):Prop:=l.length=m.length/\∀ (i:Nat) (x y:MapEntry),l[i]? = some x->m[i]? = some y->VR ρ x.key y.key/\VR ρ x.val y.val/\x.born=y.born/\plain x.key=true
theorem lL.mono {ρ ρ':ct} (hg:∀ A L,ρ A=some L->ρ' A=some L) {l m:List MapEntry} (h:lL ρ l m):lL ρ' l m :=
 ⟨h.1,λi x y hx hy=>⟨(h.2 i x y hx hy).1.mono hg,(h.2 i x y hx hy).2.1.mono hg,(h.2 i x y hx hy).2.2⟩⟩

def cU (gs:List Nat) (ρ:ct):Prop:=∀ g∈gs,∃ t,ρ g=some ⟨g,0,t⟩
def rQ (ρ:ct):Operand->Prop
 | .const v=>plain v=true
 | .global g=>∃ t,ρ g=some ⟨g,0,t⟩
 |_=>True
def kb (ρ:ct) (o:Oper):Prop:=∀ x∈o.op.operands.toList,rQ ρ x
def cq (ρ:ct):Code->Prop
 | .region _ ops _=>∀ o∈ops.toList,kb ρ o
 | .seq a b=>cq ρ a/\cq ρ b
 | .cond c a b=>rQ ρ c/\cq ρ a/\cq ρ b
 | .block _ c=>cq ρ c
 | .loop c=>cq ρ c
 | .scope c=>cq ρ c
 | .rangeFunc g _ a b=>rQ ρ g/\cq ρ a/\cq ρ b
 |_=>True
section
variable {ρ ρ':ct} (hg:∀ A L,ρ A=some L->ρ' A=some L)
include hg
theorem cU.mono {gs:List Nat} (h:cU gs ρ):cU gs ρ':=λg hh=>let ⟨t,ht⟩:=h g hh;⟨t,hg _ _ ht⟩
theorem rQ.mono {x:Operand} (h:rQ ρ x):rQ ρ' x:=by
 cases x with
 |global g=>exact let ⟨t,ht⟩:=h;⟨t,hg _ _ ht⟩
 |_=>exact h
theorem kb.mono {o:Oper} (h:kb ρ o):kb ρ' o:=λx hx=>(h x hx).mono hg
theorem cq.mono:∀ {c:Code},cq ρ c->cq ρ' c:=by
 intro c
 induction c with
 |region id ops d=>exact λh o ho=>(h o ho).mono hg
 |seq a b jh ji=>exact λh=>⟨jh h.1,ji h.2⟩
 |cond c a b jh ji=>exact λh=>⟨h.1.mono hg,jh h.2.1,ji h.2.2⟩
 |block id c ih=>exact λh=>ih h
 |loop c ih=>exact λh=>ih h
 |scope c ih=>exact λh=>ih h
 |rangeFunc g ps a b jh ji=>exact λh=>⟨h.1.mono hg,jh h.2.1,ji h.2.2⟩
 |_=>exact λ_=>trivial
end
theorem rQ.of {gs:List Nat} {ρ:ct} (hG:cU gs ρ) {x:Operand} (h:Lr gs x=true):rQ ρ x:=by
 cases x with
 |global g=>exact hG g (by simpa [Lr] using h)
 |const v=>exact h
 |_=>trivial
theorem kb.of {gs:List Nat} {ρ:ct} (hG:cU gs ρ) {o:Oper} (h:J8 gs o=true):kb ρ o:=λx hx=>.of hG (jE.1 h x hx)
theorem cq.of {gs:List Nat} {ρ:ct} (hG:cU gs ρ):∀ {c:Code},qA gs c=true->cq ρ c:=by
 intro c
 induction c with
 |region id ops d=>exact λh o ho=>.of hG (jE.1 h o ho)
 |seq a b jh ji=>exact λh=>by simp only [qA,dW] at h;exact ⟨jh h.1,ji h.2⟩
 |cond c a b jh ji=>exact λh=>by simp only [qA,dW] at h;exact ⟨.of hG h.1.1,jh h.1.2,ji h.2⟩
 |block id c ih=>exact λh=>ih h
 |loop c ih=>exact λh=>ih h
 |scope c ih=>exact λh=>ih h
 |rangeFunc g ps a b jh ji=>exact λh=>by simp only [qA,dW] at h;exact ⟨.of hG h.1.1,jh h.1.2,ji h.2⟩
 |_=>exact λ_=>trivial

def live (h:Heap) (A:Nat):Prop:=∃ b,h.get A=some b/\b≠.dead
def m7 (h:Heap) (A:Nat):Prop:=∃ cs e,h.get A=some (.row cs e true)

def uk:TypeId:=1099511627776
def uo:List ai:=Lib.asciiSpaceTab.map λz=>Value.int .u8 z
def zBf:TypeId:=5
structure qL (e:TypeId) (n:Nat) (fz:Nat × Nat):Prop where
 in':∀ j,j < n->¬ (fz.1<=j/\j < fz.2)
 agB:e=zBf\/¬ (fz.1<=n/\n < fz.2)
theorem qL.zero (e:TypeId) (n:Nat):qL e n (0,0):=⟨λ_ _ h=>by have:=h.2;simp at this,.inr λh=>by have:=h.2;simp at this⟩
def pj (ρ:ct) (w:World) (L:Loc):Option aZ->Prop
 |some (.row cs e true)=>(L.b < w.heap.size/\(e=uk->cs=uo))/\∀ (i:Nat) (v:ai),cs[i]? = some v->∃ u,w.cell? ⟨L.b,L.s+i,none⟩=some u/\VR ρ v u
 |some (.row cs e false)=>∃ (cur:Array ai) (fz:Nat × Nat),w.heap[L.b]? = some (.cells cur e fz)/\qL e cur.size fz/\cur.size=L.zE/\∃ m,cut cur.toList L.s cs.length=some m/\cz ρ cs m
 |some (.map es clock)=>∃ ces:Array MapEntry,w.heap[L.b]? = some (.map ces clock)/\lL ρ es ces.toList
 |some (.loop env ps assign body st fF)=>∃ l:Loop,w.heap[L.b]? = some (.loop l)/\l.state=st/\l.pending=fF/\l.params.toList=ps/\l.assign=assign/\l.body=body/\cd ρ env l.tmps/\cq ρ assign/\cq ρ body
 |some .dead=>L.b < w.heap.size
 |none=>L.b < w.heap.size

theorem pj.fN {ρ ρ':ct} {w':World} {L:Loc} {b:Option aZ} (hb:pj ρ w L b) (hg:∀ A L,ρ A=some L->ρ' A=some L) (dV:w.heap.size<=w'.heap.size)
 (hk:(∃ x,b=some x/\x≠.dead)->w'.heap[L.b]? = w.heap[L.b]?):pj ρ' w' L b:=by
 cases b with
 |none=>exact dt hb dV
 |some b =>
  cases b with
  |dead=>exact dt hb dV
  |map es clock =>
   obtain ⟨ces,hc,he⟩:=hb
   exact ⟨ces,(hk ⟨_,rfl,by simp⟩).trans hc,he.mono hg⟩
  |loop env ps assign body st fF =>
   obtain ⟨l,hc,h1,h2,h3,h4,h5,h6,h7⟩:=hb
   exact ⟨l,(hk ⟨_,rfl,by simp⟩).trans hc,h1,h2,h3,h4,h5,h6.mono hg,h7.1.mono hg,h7.2.mono hg⟩
  |row cs e ro =>
   have nz:=hk ⟨_,rfl,by simp⟩
   cases ro with
   |true =>
    refine ⟨⟨dt hb.1.1 dV,hb.1.2⟩,λi v hi=>?_⟩
    obtain ⟨u,hu,o9⟩:=hb.2 i v hi
    refine ⟨u,?_,o9.mono hg⟩
    rw [<- hu]
    simp only [World.cell?,nz]
   |false =>
    obtain ⟨cur,fz,hc,wu,ht,m,hm,hv⟩:=hb
    exact ⟨cur,fz,nz.trans hc,wu,ht,m,hm,hv.mono hg⟩

structure bM (ρ:ct) (h:Heap) (w:World):Prop where
 lx:∀ A L,ρ A=some L->pj ρ w L (h.get A)
 inj:∀ A A' L L',ρ A=some L->ρ A'=some L'->A≠A'->L.b=L'.b->¬ live h A\/¬ live h A'\/(m7 h A/\m7 h A')

theorem bM.lt {ρ:ct} (hs:bM ρ h w) {A:Nat} {L:Loc} (hA:ρ A=some L):L.b < w.heap.size:=by
 have hb:=hs.lx A L hA
 cases hg:h.get A with
 |none=>rw [hg] at hb;exact hb
 |some b =>
  rw [hg] at hb
  cases b with
  |dead=>exact hb
  |map es clock =>
   obtain ⟨ces,hc,_⟩:=hb
   exact (my.1 hc).1
  |loop env ps assign body st fF =>
   obtain ⟨l,hc,_⟩:=hb
   exact (my.1 hc).1
  |row cs e ro =>
   cases ro with
   |true=>exact hb.1.1
   |false =>
    obtain ⟨cur,fz,hc,_⟩:=hb
    exact (my.1 hc).1

def fj (ρ:ct) (h h':Heap):Prop:=∀ A,h.size<=A->A < h'.size->ρ A=none

structure Fr (ρ ρ':ct) (h h':Heap) (w w':World):Prop where
 grow:∀ A L,ρ A=some L->ρ' A=some L
 fresh:∀ A L,ρ' A=some L->ρ A=none->h.size<=A/\A < h'.size/\(w.heap.size<=L.b\/∃ A0 L0,ρ A0=some L0/\L0.b=L.b/\h'.low<=A0/\A0 < h'.size)
 os:w'.os=w.os
 tape:w'.tape=w.tape
 output:w'.output=w.output
 size:w.heap.size<=w'.heap.size
 gY:h.size<=h'.size
 low:h'.low<=h.low
 fN:∀ b,b < w.heap.size->(∀ A L,ρ A=some L->L.b=b->A < h'.low\/h'.size<=A)->w'.heap[b]? = w.heap[b]?
 rS:∀ A,A < h.size->A < h'.low->h'.get A=h.get A

theorem Fr.refl (ρ:ct) (h:Heap) (w:World):Fr ρ ρ h h w w :=
 ⟨λ_ _ h=>h,λA L h1 h2=>(by rw [h1] at h2;cases h2),rfl,rfl,rfl,aQ _,aQ _,aQ _,λ_ _ _=>rfl,λ_ _ _=>rfl⟩

theorem Fr.trans {ρ ρ' ρ'':ct} {h h' FC:Heap} {w w' w'':World} (f:Fr ρ ρ' h h' w w') (g:Fr ρ' ρ'' h' FC w' w''):Fr ρ ρ'' h FC w w'':=by
 refine ⟨λA L hA=>g.grow A L (f.grow A L hA),?_,g.os.trans f.os,g.tape.trans f.tape,g.output.trans f.output,dZ f.size g.size,dZ f.gY g.gY,dZ g.low f.low,?_,?_⟩
 .intro A L hA hn
  cases hρ:ρ' A with
  |some L1 =>
   have e:L1=L:=by have:=g.grow A L1 hρ;rw [hA] at this;exact (Option.some.inj this).symm
   subst e
   obtain ⟨h1,cF,h2⟩:=f.fresh A L1 hρ hn
   refine ⟨h1,dt cF g.gY,?_⟩
   rcases h2 with h2|⟨A0,L0,h0,he,hl,yV⟩
   .exact .inl h2
   .exact .inr ⟨A0,L0,h0,he,dZ g.low hl,dt yV g.gY⟩
  |none =>
   obtain ⟨h1,cF,h2⟩:=g.fresh A L hA hρ
   refine ⟨dZ f.gY h1,cF,?_⟩
   rcases h2 with h2|⟨A0,L0,h0,he,hl,yV⟩
   .exact .inl (dZ f.size h2)
   .cases DZ:ρ A0 with
    |some L1 =>
     have e:L1=L0:=by have:=f.grow A0 L1 DZ;rw [h0] at this;exact (Option.some.inj this).symm
     subst e
     exact .inr ⟨A0,L1,DZ,he,hl,yV⟩
    |none =>
     rcases (f.fresh A0 L0 h0 DZ).2.2 with h3|⟨A1,L1,h3,Nb,yW,S6⟩
     .exact .inl (by omega)
     .exact .inr ⟨A1,L1,h3,Nb.trans he,dZ g.low yW,dt S6 g.gY⟩
 .intro b hb aE
  have Is:∀ A L,ρ A=some L->L.b=b->A < h'.low\/h'.size<=A:=λA L hA hL=>by
   have h1:=aE A L hA hL
   have h2:=g.low
   have h3:=g.gY
   omega
  rw [g.fN b (dt hb f.size) ?_,f.fN b hb Is]
  intro A L hA hL
  cases hρ:ρ A with
  |some L0 =>
   have e:L0=L:=by have:=f.grow A L0 hρ;rw [hA] at this;exact (Option.some.inj this).symm
   subst e
   exact aE A L0 hρ hL
  |none =>
   rcases (f.fresh A L hA hρ).2.2 with h1|⟨A0,L0,h0,he,hl,yV⟩
   .omega
   .have h1:=aE A0 L0 h0 (he.trans hL)
    have h2:=g.low
    have h3:=g.gY
    omega
 .intro A hA hl
  rw [g.rS A (dt hA f.gY) hl,f.rS A hA (dt hl g.low)]

theorem fj.left {ρ:ct} {h1 h2:Heap} (hf:fj ρ h h2) (hle:h1.size<=h2.size):fj ρ h h1:=λA h3 h4=>hf A h3 (dt h4 hle)
theorem fj.right {ρ ρ':ct} {h1 h2:Heap} {w':World} (hf:fj ρ h h2) (fr:Fr ρ ρ' h h1 w w'):fj ρ' h1 h2:=by
 intro A h3 h4
 cases hA:ρ' A with
 |none=>rfl
 |some L =>
  have hn:=hf A (dZ fr.gY h3) h4
  have:=(fr.fresh A L hA hn).2.1
  omega

end Go.Am
namespace Go.Am
open Go.RowKit
variable {A n o:Nat} {l m:List ai} {W:World}

structure bN.Fits (T:bN) (P:Program):Prop where
 desc:∀ t d,T.desc t=some d->P.underlying t=some d
 info:∀ t n b z,T.info t=some (n,b,z)->∃ i zv,P.info? t=some i/\i.size=n/\i.bytes=b/\i.zero=some zv/\zv.cells.toList=z/\z.length=n/\z.all ld=true
 fn:∀ f fn,T.fn f=some fn->P.funcs[f]? = some fn/\(fn.name == "runtime.NumGoroutine")=false/\∀ c,fn.body=some c->qA T.gs c=true
 cmp:∀ t,T.cmp t=true->P.stoodInHeld t=false/\P.eqGuardType P.depth t=false
 zero:∀ t v,T.zero t=some v->(∃ i,P.info? t=some i/\i.zero=some v)/\plain v=true
 wI:∀ t name m,T.wI t name=some m->∃ i,P.info? t=some i/\i.methods.find? (·.name == name)=some m

theorem BR (h:cut l o n=some m):o+n<=l.length/\m.length=n/\∀ i,i < n->m[i]? = l[o+i]? := by
 unfold cut at h
 split at h
 .rename_i hl
  cases h
  refine ⟨hl,by simp;omega,λi hi=>?_⟩
  rw [qF,aB hi,lJ]
 .cases h
theorem uz (hl:o+n<=l.length) (hm:m.length=n) (h:∀ i,i < n->m[i]? = l[o+i]?):cut l o n=some m:=by
 unfold cut
 rw [aB hl]
 congr 1
 refine xi λi=>?_
 rw [qF]
 split
 .rename_i hi;rw [lJ,h i hi]
 .rw [GR (by omega)]

theorem BI {vs:List ai} (h:o+vs.length<=l.length):(aI l o vs).length=l.length:=by
 simp [aI];omega
theorem dh (l vs:List ai) (o i:Nat) (h:o+vs.length<=l.length):(aI l o vs)[i]? = if i < o then l[i]? else if i < o+vs.length then vs[i - o]? else l[i]? := by
 unfold aI
 rw [Aj,Aj]
 have hl:(l.take o).length=o:=by simp;omega
 simp only [cT,hl]
 by_cases h1:i < o
 .rw [aB (by omega),aB h1,aB h1,qF,aB h1]
 .rw [aA h1]
  by_cases h2:i < o+vs.length
  .rw [aB h2,aA h1,aB h2]
  .rw [aA h2,aA h2,lJ]
   rw [show o+vs.length+(i - (o+vs.length))=i by omega,aA h1]
theorem ztn {cur us:List ai} {s:Nat} (hc:cut cur s n=some m) (ho:o+us.length<=n):cut (aI cur (s+o) us) s n=some (aI m o us):=by
 obtain ⟨h1,h2,h3⟩:=BR hc
 refine uz (by rw [BI (by omega)];exact h1) (by rw [BI (by omega)];exact h2) λi hi=>?_
 rw [dh _ _ _ _ (by omega),dh _ _ _ _ (by omega)]
 by_cases h4:i < o
 .rw [aB h4,aB (show s+i < s+o by omega),h3 i hi]
 .rw [aA h4,aA (show ¬ s+i < s+o by omega)]
  by_cases h5:i < o+us.length
  .rw [aB h5,aB (show s+i < s+o+us.length by omega)]
   congr 1
   omega
  .rw [aA h5,aA (show ¬ s+i < s+o+us.length by omega),h3 i hi]

section
variable {P:Program} {T:bN} {ρ:ct} {h h':Heap} {w:World}

theorem NV (hs:bM ρ h w) {L:Loc} (hA:ρ A=some L) (hc:kA A o n h=some l) :
 ∃ m,cz ρ l m/\m.length=n/\w.rangeAt L.b (L.s+o) m:=by
 have hb:=hs.lx A L hA
 unfold kA at hc
 cases hg:h.get A with
 |none=>rw [hg] at hc;cases hc
 |some b =>
  rw [hg] at hc hb
  cases b with
  |dead=>cases hc
  |map es clock=>cases hc
  |loop env ps assign body st fF=>cases hc
  |row cs e ro =>
   obtain ⟨h1,h2,h3⟩:=BR hc
   cases ro with
   |true =>
    obtain ⟨_,gw⟩:=hb
    have hex:∀ i,i < n->∃ u,w.cell? ⟨L.b,L.s+(o+i),none⟩=some u/\∀ x,l[i]? = some x->VR ρ x u:=by
     intro i hi
     have hx:cs[o+i]? = some (cs[o+i]'(by omega)):=gG _
     obtain ⟨u,hu,hv⟩:=gw (o+i) _ hx
     refine ⟨u,hu,λx ZN=>?_⟩
     rw [h3 i hi,hx] at ZN
     cases ZN
     exact hv
    refine ⟨(List.range n).map λi=>(w.cell? ⟨L.b,L.s+(o+i),none⟩).getD undef,⟨by simp [h2],λi x y hx hy=>?_⟩,by simp,λj v hv=>?_⟩
    .have hi:i < n:=by rw [<- h2];exact (fR.1 hx).1
     obtain ⟨u,hu,hv⟩:=hex i hi
     rw [lk,LY hi,kK,hu] at hy
     cases hy
     exact hv x hx
    .have hj:j < n:=by have:=(fR.1 hv).1;simpa using this
     obtain ⟨u,hu,_⟩:=hex j hj
     rw [lk,LY hj,kK,hu] at hv
     cases hv
     rw [oU]
     exact hu
   |false =>
    obtain ⟨cur,fz,oz,_,_,m,hm,hv⟩:=hb
    obtain ⟨d,hd,DT⟩:=hv.cut hc
    obtain ⟨k1,k2,k3⟩:=BR hm
    obtain ⟨d1,d2,d3⟩:=BR hd
    refine ⟨d,DT,d2,λj v hj=>?_⟩
    have hjn:j < n:=by rw [<- d2];exact (fR.1 hj).1
    rw [cell_of_row w L.b _ cur e fz oz]
    rw [d3 j hjn,k3 (o+j) (by rw [k2] at d1;omega)] at hj
    rw [<- Array.getElem?_toList,oU]
    exact hj

theorem VD (hT:T.Fits P) (hs:bM ρ h w) {t:TypeId} {x y v:ai} (cN:VR ρ x y) (hl:hU T t x h=some v) :
 ∃ u,(Instr.loadAt t y).run P w=.ok u w/\VR ρ v u:=by
 cases cN with
 |ptr hA =>
  rename_i A o L
  simp only [hU] at hl
  cases hg:T.desc t with
  |none=>simp [dw,hg] at hl
  |some d =>
   have hu:=hT.desc t d hg
   have key:∀ (n:Nat) (l:List ai),T.info t≠none->kA A o n h=some l->d.isRow=true->(T.info t).map (·.1)=some n->v=.agg l.toArray->∃ u,(Instr.loadAt t (.pointer (some ⟨L.b,L.s+o,none⟩))).run P w=.ok u w/\VR ρ v u:=by
    intro n l _ hc hd hi hv
    obtain ⟨m,hm,hlen,hr⟩:=NV hs hA hc
    cases ie:T.info t with
    |none=>simp [ie] at hi
    |some q =>
     obtain ⟨q1,q2,q3⟩:=q
     obtain ⟨i,zv,e1,e2,_⟩:=hT.info t q1 q2 q3 ie
     simp [ie] at hi
     refine ⟨.agg m.toArray,run_loadAt_mid w L.b (L.s+o) t m d hr hu hd (by rw [e1];simp [e2,hi,hlen]),?_⟩
     rw [hv]
     exact hm.toArray
   have Um:∀ (l:List ai),kA A o 1 h=some l->l[0]? = some v->d.isRow=false->∃ u,(Instr.loadAt t (.pointer (some ⟨L.b,L.s+o,none⟩))).run P w=.ok u w/\VR ρ v u:=by
    intro l hc h0 hd
    obtain ⟨m,hm,hlen,hr⟩:=NV hs hA hc
    obtain ⟨u,TQ,TS⟩:=hm.get h0
    have gw:=hr 0 u TQ
    refine ⟨u,?_,TS⟩
    have oh:(isAgg t).run P w=.ok false w:=by
     unfold isAgg
     rw [Sem.run_bind,run_underlying hu w]
     cases d <;> simp_all
    simp only [gS] at gw
    simp [Instr.loadAt,Instr.sureAddr,loadVar,Sem.run_bind,oh,gw]
   have pE:(∃ n l,T.info t≠none/\kA A o n h=some l/\d.isRow=true/\(T.info t).map (·.1)=some n/\v=.agg l.toArray)\/(∃ l,kA A o 1 h=some l/\l[0]? = some v/\d.isRow=false):=by
    have TB:∀ (hl:((dF T t).bind λn=>(kA A o n h).map λl=>Value.agg l.toArray)=some v) (hd:d.isRow=true),
     ∃ n l,T.info t≠none/\kA A o n h=some l/\d.isRow=true/\(T.info t).map (·.1)=some n/\v=.agg l.toArray:=by
     intro hl hd
     simp only [dF,cy,cn] at hl
     obtain ⟨n,⟨q,hq,rfl⟩,l,hc,rfl⟩:=hl
     exact ⟨q.1,l,by rw [hq];simp,hc,hd,by rw [hq];rfl,rfl⟩
    cases d <;> simp only [dw,hg,kK,dH,if_true,gH,if_false] at hl <;>
     first
      |(left;exact TB hl rfl)
      |(right;simp only [cy] at hl;obtain ⟨l,hc,h0⟩:=hl;exact ⟨l,hc,h0,rfl⟩)
   rcases pE with ⟨n,l,a,b,c,d',e⟩|⟨l,a,b,c⟩
   .exact key n l a b c d' e
   .exact Um l a b c
 |_=>simp [hU] at hl

theorem Lj (hs:bM ρ h w) {L:Loc} {b b':aZ} (hA:ρ A=some L) (hg:h.get A=some b) (nB:b≠.dead) (FU:∀ cs e,b≠.row cs e true)
 (vR:W.os=w.os) (jX:W.tape=w.tape) (gz:W.output=w.output) (dV:W.heap.size=w.heap.size) (me:∀ k,k≠L.b->W.heap[k]? = w.heap[k]?) (lB:pj ρ W L (some b')) :
 Fr ρ ρ h (h.set A b') w W/\bM ρ (h.set A b') W:=by
 have pB:A < h.size:=Heap.ao hg
 refine ⟨⟨λ_ _ h=>h,λA' L' h1 h2=>(by rw [h1] at h2;cases h2),vR,jX,gz,by rw [dV];exact aQ _,aQ _,xj _ _,?_,?_⟩,⟨?_,?_⟩⟩
 .intro b hb aE
  refine me b λe=>?_
  subst e
  have:=aE A L hA rfl
  rw [Heap.cA,Heap.size_set] at this
  omega
 .intro A' fw hl
  rw [Heap.cA] at hl
  rw [Heap.aH _ _ _ _ pB,aA (by omega)]
 .intro A' L' fw
  rw [Heap.aH _ _ _ _ pB]
  by_cases e':A'=A
  .subst e'
   rw [hA] at fw
   cases fw
   rw [aB rfl]
   exact lB
  .rw [aA e']
   refine (hs.lx A' L' fw).fN (λ_ _ h=>h) (by omega) ?_
   rintro ⟨x,hx,hxd⟩
   refine me L'.b λheq=>?_
   rcases hs.inj A' A L' L fw hA e' heq with h1|h1|h1
   .exact h1 ⟨x,hx,hxd⟩
   .exact h1 ⟨_,hg,nB⟩
   .obtain ⟨_,Qe,e2,mV⟩:=h1
    rw [hg] at mV
    cases mV
    exact FU _ _ rfl
 .intro A1 A2 L1 L2 h1 h2 aL hb
  have eD:∀ A',¬ live h A'->¬ live (h.set A b') A':=by
   intro A' hd
   by_cases e':A'=A
   .subst e';exact (hd ⟨_,hg,nB⟩).elim
   .unfold live at hd ⊢
    rw [Heap.aH _ _ _ _ pB,aA e']
    exact hd
  have Ju:∀ A',m7 h A'->m7 (h.set A b') A':=by
   rintro A' ⟨Qe,e2,mV⟩
   refine ⟨Qe,e2,?_⟩
   rw [Heap.aH _ _ _ _ pB,aA (by intro e';subst e';rw [hg] at mV;cases mV;exact FU _ _ rfl)]
   exact mV
  rcases hs.inj A1 A2 L1 L2 h1 h2 aL hb with h3|h3|⟨h3,h4⟩
  .exact .inl (eD _ h3)
  .exact .inr (.inl (eD _ h3))
  .exact .inr (.inr ⟨Ju _ h3,Ju _ h4⟩)

theorem Va (P:Program) (g o:Nat) (t:TypeId) (fz:Nat × Nat):∀ (vs:List ai) (i:Nat) (cur:Array ai) (w:World),w.heap[g]? = some (.cells cur t fz)->qL t cur.size fz->o+i+vs.length<=cur.size->(∀ v∈vs,v.oneCell'=true) ->
 (storeCells ⟨g,o,none⟩ vs i).run P w=.ok () (w.setRow g (cur.toList.take (o+i)++vs++cur.toList.drop (o+i+vs.length)).toArray)
 | [],i,cur,w,hg,_,_,_=>by
  simp only [storeCells,bD,dK,gS,GS,Array.toArray_toList]
  rw [setRow_self w g cur t fz hg]
  rfl
 |v::rest,i,cur,w,hg,IV,hl,h1=>by
  have hi:o+i < cur.size:=by simp at hl;omega
  have Se:(⟨g,o,none⟩:Addr).add i=⟨g,o+i,none⟩:=by unfold Addr.add;split <;> simp_all
  have gw:w.cell? ⟨g,o+i,none⟩=some cur[o+i]:=by simp [World.cell?,hg,hi]
  have SL:w.frozen? ⟨g,o+i,none⟩=false:=by
   have h0:=IV.in' (o+i) hi
   obtain ⟨lo,lZ⟩:=fz
   simp only [World.frozen?,hg,Bool.and_eq_false_iff,decide_eq_false_iff_not]
   simp only at h0
   omega
  have cV:(store ((⟨g,o,none⟩:Addr).add i) v).run P w=.ok () (w.setRow g (cur.setIfInBounds (o+i) v)):=by
   rw [Se,run_store P w _ v _ (h1 v (by simp)),gw]
   simp [SL,setCell_eq_setRow w g (o+i) cur t fz v hg]
  have ih:=Va P g o t fz rest (i+1) (cur.setIfInBounds (o+i) v) (w.setRow g (cur.setIfInBounds (o+i) v)) (setRow_heap w g cur _ t _ hg) (by simpa using IV) (by simp at hl ⊢;omega) (λx hx=>h1 x (by simp [hx]))
  simp only [storeCells,Sem.run_bind,cV,Result.andThen_ok,ih,setRow_setRow]
  congr 3
  have e:=list_seg_step cur.toList (o+i) v rest (by simp at hl ⊢;omega)
  simpa [Array.toList_setIfInBounds,oU] using e

theorem K1 (hs:bM ρ h w) {L:Loc} {vs us:List ai} (hA:ρ A=some L) (hv:cz ρ vs us) (hw:nQ A o vs h=some h') :
 ∃ w',(storeCells ⟨L.b,L.s+o,none⟩ us 0).run P w=.ok () w'/\Fr ρ ρ h h' w w'/\bM ρ h' w':=by
 have hb:=hs.lx A L hA
 unfold nQ at hw
 split at hw
 .rename_i cs e hg
  split at hw
  .rename_i hc
   simp only [dW,ix] at hc
   obtain ⟨ho,h1⟩:=hc
   cases hw
   rw [hg] at hb
   obtain ⟨cur,fz,oz,wu,wx,m,hm,TV⟩:=hb
   obtain ⟨k1,k2,k3⟩:=BR hm
   have Ds:vs.length=us.length:=hv.1
   have cV:=Va P L.b (L.s+o) e fz us 0 cur w oz wu (by simp at k1 ⊢;omega) (hv.one h1)
   simp only [gS] at cV
   let kg:=(cur.toList.take (L.s+o)++us++cur.toList.drop (L.s+o+us.length)).toArray
   have vp:(w.setRow L.b kg).heap[L.b]? = some (.cells kg e fz):=setRow_heap w L.b cur kg e _ oz
   have dV:(w.setRow L.b kg).heap.size=w.heap.size:=by simp [World.setRow]
   have TM:qL e kg.size fz:=by
    have:=BI (l:=cur.toList) (vs:=us) (o:=L.s+o) (by simp at k1 ⊢;omega)
    have h2:kg.size=cur.size:=by simpa [kg,aI] using this
    rw [h2]
    exact wu
   refine ⟨w.setRow L.b kg,cV,Lj hs hA hg (by simp) (by simp) rfl rfl rfl dV (λb hb=>setRow_other w L.b b kg hb) ⟨kg,fz,vp,TM,?_,aI m o us,?_,TV.aI o hv⟩⟩
   .show kg.size=L.zE
    rw [<- wx]
    have:=BI (l:=cur.toList) (vs:=us) (o:=L.s+o) (by simp at k1 ⊢;omega)
    simpa [kg,aI] using this
   .rw [BI ho]
    have:=ztn (us:=us) (o:=o) hm (by omega)
    simpa [kg,aI] using this
  .cases hw
 .cases hw

theorem VH (hs:bM ρ h w) (gy:ρ h.size=none) {L:Loc} {b:aZ} (hold:∀ k,k < w.heap.size->W.heap[k]? = w.heap[k]?) (dV:w.heap.size<=W.heap.size)
 (vR:W.os=w.os) (jX:W.tape=w.tape) (gz:W.output=w.output) (hL:w.heap.size<=L.b) (hb:∀ ρ',(∀ A L,ρ A=some L->ρ' A=some L)->pj ρ' W L (some b)) :
 ∃ ρ',ρ' h.size=some L/\Fr ρ ρ' h (h.push b) w W/\bM ρ' (h.push b) W:=by
 have fC:∀ A L',ρ A=some L'->(λA=>if A=h.size then some L else ρ A) A=some L':=by
  intro A L' hA
  have aL:A≠h.size:=λe=>by rw [e,gy] at hA;cases hA
  simp only [aA aL]
  exact hA
 refine ⟨λA=>if A=h.size then some L else ρ A,by simp,⟨fC,?_,vR,jX,gz,dV,by rw [Heap.size_push];omega,aQ _,λb hb _=>hold b hb,?_⟩,⟨?_,?_⟩⟩
 .intro A L' hA hn
  split at hA
  .rename_i e1;cases hA;exact ⟨by omega,by rw [Heap.size_push];omega,.inl hL⟩
  .rw [hn] at hA;cases hA
 .intro A hA _
  rw [Heap.bH,aA (by omega)]
 .intro A L' hA
  rw [Heap.bH]
  split at hA
  .rename_i e1
   cases hA
   rw [aB e1]
   exact hb _ fC
  .rename_i e1
   rw [aA e1]
   exact (hs.lx A L' hA).fN fC dV λ_=>hold _ (hs.lt hA)
 .intro A1 A2 L1 L2 h1 h2 aL tW
  have ga:∀ A,A≠h.size->(h.push b).get A=h.get A:=λA hA=>by rw [Heap.bH,aA hA]
  split at h1
  .split at h2
   .omega
   .rename_i e1 e2
    cases h1
    have:=hs.lt h2
    omega
  .split at h2
   .rename_i e1 e2
    cases h2
    have:=hs.lt h1
    omega
   .rename_i e1 e2
    unfold live m7
    rw [ga A1 e1,ga A2 e2]
    exact hs.inj A1 A2 L1 L2 h1 h2 aL tW

theorem zjS (hs:bM ρ h w) (gy:ρ h.size=none) {cs:List ai} {cur:Array ai} {e:TypeId} {fz:Nat × Nat} (wu:qL e cur.size fz) (hW:W.heap=w.heap.push (.cells cur e fz))
 (vR:W.os=w.os) (jX:W.tape=w.tape) (gz:W.output=w.output) (vt:cut cur.toList 0 cs.length=some m) (hv:cz ρ cs m) :
 ∃ ρ',ρ' h.size=some ⟨w.heap.size,0,cur.size⟩/\Fr ρ ρ' h (h.push (.row cs e false)) w W/\bM ρ' (h.push (.row cs e false)) W:=by
 refine VH hs gy (λk hk=>by rw [hW,xh,aA (by omega)]) (by rw [hW];simp) vR jX gz (aQ _) λρ' hg=>?_
 exact ⟨cur,fz,by rw [hW];simp,wu,rfl,m,vt,hv.mono hg⟩
theorem Gp (hs:bM ρ h w) (gy:ρ h.size=none) {cs:List ai} {cur:Array ai} {e:TypeId} (hW:W.heap=w.heap.push (.cells cur e (0,0)))
 (vR:W.os=w.os) (jX:W.tape=w.tape) (gz:W.output=w.output) (vt:cut cur.toList 0 cs.length=some m) (hv:cz ρ cs m) :
 ∃ ρ',ρ' h.size=some ⟨w.heap.size,0,cur.size⟩/\Fr ρ ρ' h (h.push (.row cs e false)) w W/\bM ρ' (h.push (.row cs e false)) W :=
 zjS hs gy (.zero _ _) hW vR jX gz vt hv

theorem bM.same (hs:bM ρ h w) (hW:W.heap=w.heap):bM ρ h W :=
 ⟨λA L hA=>(hs.lx A L hA).fN (λ_ _ h=>h) (by rw [hW];exact aQ _) (λ_=>by rw [hW]),hs.inj⟩
end
end Go.Am
namespace Go.Am
open Go.RowKit
variable {m news:List ai} {c k n o q:Nat} {y:ai} {e t ty u:TypeId}

theorem Vb (z:Array ai) (n:Nat):((Array.range (n*z.size)).map λi=>z[i % z.size]!).toList=nh z.toList n:=by
 induction n with
 |zero=>simp [nh]
 |succ n ih =>
  have hr:Array.range ((n+1)*z.size)=Array.range (n*z.size)++(Array.range z.size).map (n*z.size+·):=by
   apply Array.ext'
   simp only [Array.toList_range,Array.toList_append,Array.toList_map,qH,Nat.one_mul,List.range_add]
  rw [hr,Array.map_append,Array.toList_append,ih]
  simp only [nh,List.replicate_succ',List.flatten_append,List.flatten_singleton]
  congr 1
  apply xi
  intro i
  by_cases hi:i < z.size
  .simp [hi,Cj hi]
  .simp [hi]

theorem zmw (z:List ai) (n:Nat):(nh z n).length=n*z.length:=by simp [nh]

theorem Vw {z:List ai} (h:z.all ld=true) (n:Nat):(nh z n).all ld=true:=by
 simp only [nh,jE,List.mem_flatten,List.mem_replicate] at *
 rintro x ⟨l,⟨_,rfl⟩,hx⟩
 exact h x hx


section
variable {P:Program} {T:bN} {ρ:ct} {h h':Heap} {w:World}

theorem zo7 {b:Nat} (h:w.rangeAt b o m):w.rangeAt b o (m.take q):=by
 intro j v hv
 rw [qF] at hv
 split at hv
 .exact h j v hv
 .cases hv

theorem zfV {b:Nat} (h:w.rangeAt b o m) (hl:m.length=q*k):(Builtin.firstCells k q (.slice (some ⟨b,o,none⟩) n c)).run P w=.ok m.toArray w :=
 run_firstCells_some w k q ⟨b,o,none⟩ n c m hl (λj v hv=>by rw [Addr.add_mid];exact h j v hv)

theorem Vg (hs:bM ρ h w) {a:Option Addr} {l:List ai} (cN:VR ρ (.slice a n c) y) (hc:mJ (.slice a n c) k h=some l) :
 ∃ a' c' m,y=.slice a' n c'/\cz ρ l m/\m.length=n*k/\∀ W:World,W.heap=w.heap->∀ q,q<=n->(Builtin.firstCells k q y).run P W=.ok (m.take (q*k)).toArray W:=by
 have hzero:∀ (q:Nat) (ad:Addr) (c':Nat) (W:World),q*k=0->(Builtin.firstCells k q (.slice (some ad) n c')).run P W=.ok #[] W:=by
  intro q ad c' W hq
  simp [Builtin.firstCells,hq,loadCells,loadCellsFrom]
 have vm:∀ {A o:Nat} {L:Loc} {ad:Addr} {c':Nat},ρ A=some L->(n≠0->ad=⟨L.b,L.s+o,none⟩)->mJ (.slice (some ⟨A,o,none⟩) n c) k h=some l ->
  ∃ m,cz ρ l m/\m.length=n*k/\∀ W:World,W.heap=w.heap->∀ q,q<=n->(Builtin.firstCells k q (.slice (some ad) n c')).run P W=.ok (m.take (q*k)).toArray W:=by
  intro A o L ad c' hA fK hc
  simp only [mJ] at hc
  split at hc
  .rename_i h0
   cases hc
   refine ⟨[],.nil ρ,by simp [h0],λW _ q hq=>?_⟩
   have h1:q*k=0:=by
    rcases Nat.mul_eq_zero.1 h0 with e|e
    .have:q=0:=by omega
     simp [this]
    .simp [e]
   rw [hzero q ad c' W h1]
   simp
  .rename_i h0
   have hn:n≠0:=λe=>h0 (by simp [e])
   obtain ⟨m,hm,hlen,hr⟩:=NV hs hA hc
   refine ⟨m,hm,hlen,λW hW q hq=>?_⟩
   rw [fK hn]
   have cI:W.rangeAt L.b (L.s+o) m:=λj v hv=>(World.cell?_of_block (by rw [hW])).trans (hr j v hv)
   refine zfV (zo7 cI) ?_
   rw [gR,hlen]
   exact Nat.min_eq_left (tN _ hq)
 cases cN with
 |dD =>
  simp only [mJ] at hc
  cases hc
  refine ⟨none,0,[],rfl,.nil ρ,by simp,λW _ q hq=>?_⟩
  have:q=0:=by omega
  subst this
  simp [Builtin.firstCells]
 |slice hA dO hn fK =>
  obtain ⟨m,h1,h2,h3⟩:=vm hA (λh0=>fK (by omega)) hc
  exact ⟨_,_,m,rfl,h1,h2,h3⟩
 |cW hA dO gx hn hk hm fK =>
  obtain ⟨m,h1,h2,h3⟩:=vm hA (λh0=>(fK (by omega)).1) hc
  exact ⟨_,_,m,rfl,h1,h2,h3⟩

theorem zlD (hs:bM ρ h w) {x:ai} {m:Nat} {l:List ai} (cN:VR ρ x y) (hc:fO x k h=some (m,l)) :
 ∃ n,cz ρ l n/\n.length=m*k/\Builtin.lenOf y=pure m/\∀ W:World,W.heap=w.heap->∀ q,q<=m->(Builtin.firstCells k q y).run P W=.ok (n.take (q*k)).toArray W:=by
 cases x with
 |string b =>
  cases cN
  simp only [fO] at hc
  split at hc
  .rename_i hk
   subst hk
   cases hc
   refine ⟨_,cz.plain ρ (by rw [jE];intro x hx;rw [ph] at hx;obtain ⟨u,_,rfl⟩:=hx;rfl),by simp,rfl,λW _ q hq=>?_⟩
   simp only [Builtin.firstCells,Sem.run_pure,Nat.mul_one]
   congr 1
   apply Array.ext'
   have hd:(b.extract 0 q).data=b.data.extract 0 q:=by
    exact ByteArray.data_extract
   rw [hd]
   simp
  .cases hc
 |slice a n c =>
  simp only [fO,cn,cR] at hc
  obtain ⟨l',hc,rfl,rfl⟩:=hc
  obtain ⟨a',c',m,rfl,h1,h2,h3⟩:=Vg (P:=P) hs cN hc
  exact ⟨m,h1,h2,rfl,h3⟩
 |_=>simp [fO] at hc

def Mu (P:Program) (u:TypeId):Prop:=(∃ e',P.underlying u=some (.slice e'))\/P.underlying u=some .string

theorem Vd {i:TypeInfo} (ht:P.underlying t=some (.slice e)) (hu:Mu P u) (hi:P.info? e=some i)
 {a:Addr} {m:Nat} (hlen:Builtin.lenOf y=pure m) (hf:(Builtin.firstCells i.size m y).run P w=.ok news.toArray w) (nE:n+m<=c) {w':World}
 (cV:(storeCells (a.add (n*i.size)) news 0).run P w=.ok () w') :
 (Builtin.append_ #[t,u] ty #[.slice (some a) n c,y]).run P w=.ok (.slice (some a) (n+m) c) w':=by
 rcases hu with ⟨e',hd⟩|hd
 .simp [Builtin.append_,run_underlying ht,run_underlying hd,sizeOf,typeInfo,hi,hlen,nE,hf,cV]
 .simp [Builtin.append_,run_underlying ht,run_underlying hd,sizeOf,typeInfo,hi,hlen,nE,hf,cV]

theorem zjX {i:TypeInfo} (ht:P.underlying t=some (.slice e)) (hu:Mu P u) (hi:P.info? e=some i)
 {a:Option Addr} (hlen:Builtin.lenOf y=pure 0) (hf:(Builtin.firstCells i.size 0 y).run P w=.ok #[] w) (nE:n<=c) :
 (Builtin.append_ #[t,u] ty #[.slice a n c,y]).run P w=.ok (.slice a n c) w:=by
 rcases hu with ⟨e',hd⟩|hd <;> cases a <;> simp [Builtin.append_,run_underlying ht,run_underlying hd,sizeOf,typeInfo,hi,hlen,nE,hf,storeCells]

theorem zit {i:TypeInfo} {z:ai} (ht:P.underlying t=some (.slice e)) (hu:Mu P u) (hi:P.info? e=some i) (hz:i.zero=some z)
 {base:Option Addr} {m:Nat} {pS:List ai} (hlen:Builtin.lenOf y=pure m) (hf:(Builtin.firstCells i.size m y).run P w.drew=.ok news.toArray w.drew)
 (ho:(Builtin.firstCells i.size n (.slice base n c)).run P w.drew=.ok pS.toArray w.drew)
 (hg:c < n+m) (h63:n+m<=1152921504606846976) (oA:(n+m)*i.bytes<=140737488355328) :
 (Builtin.append_ #[t,u] ty #[.slice base n c,y]).run P w =
  .ok (.slice (some ⟨w.heap.size,0,none⟩) (n+m) (grownCap w (n+m) c e)) (w.drew.alloc (.cells ((pS++news)++(Builtin.zeroCells z.cells (grownCap w (n+m) c e - (n+m))).toList).toArray e)):=by
 have hn:¬ (n+m<=c):=by omega
 have Ic:¬ (9223372036854775807 < ((n:Int)+(m:Int))):=by omega
 have Zh:=growslice_fits hg oA
 have Ib:¬ (281474976710656 < Builtin.nextslicecap (n+m) c*i.bytes):=by omega
 rcases hu with ⟨e',hd⟩|hd
 .simp [Builtin.append_,run_underlying ht,run_underlying hd,sizeOf,typeInfo,zeroValue,hi,hz,hlen,hn,Ic,Ib,Question.forced,hf,ho,Go.newRow,grownCap]
  congr 2
  apply Array.ext'
  simp
 .simp [Builtin.append_,run_underlying ht,run_underlying hd,sizeOf,typeInfo,zeroValue,hi,hz,hlen,hn,Ic,Ib,Question.forced,hf,ho,Go.newRow,grownCap]
  congr 2
  apply Array.ext'
  simp

theorem zto (hs:bM ρ h w) {A:Nat} {cs:List ai} (hg:h.get A=some (.row cs e false)) :
 Fr ρ ρ h (h.set A .dead) w w/\bM ρ (h.set A .dead) w:=by
 have pB:A < h.size:=Heap.ao hg
 refine ⟨⟨λ_ _ h=>h,λA' L' h1 h2=>(by rw [h1] at h2;cases h2),rfl,rfl,rfl,aQ _,aQ _,xj _ _,λ_ _ _=>rfl,?_⟩,⟨?_,?_⟩⟩
 .intro A' fw hl
  rw [Heap.cA] at hl
  rw [Heap.aH _ _ _ _ pB,aA (by omega)]
 .intro A' L' fw
  rw [Heap.aH _ _ _ _ pB]
  by_cases e':A'=A
  .subst e'
   rw [aB rfl]
   exact hs.lt fw
  .rw [aA e']
   exact hs.lx A' L' fw
 .intro A1 A2 L1 L2 h1 h2 aL hb
  unfold live m7
  rw [Heap.aH _ _ _ _ pB,Heap.aH _ _ _ _ pB]
  by_cases e1:A1=A
  .left;simp [e1]
  .by_cases e2:A2=A
   .right;left;simp [e2]
   .rw [aA e1,aA e2]
    exact hs.inj A1 A2 L1 L2 h1 h2 aL hb

theorem ztm {cur us:List ai} {s:Nat} (hc:cut cur s n=some m) (hl:s+n+us.length<=cur.length) :
 cut (aI cur (s+n) us) s (n+us.length)=some (m++us):=by
 obtain ⟨h1,h2,h3⟩:=BR hc
 refine uz (by rw [BI hl];omega) (by simp [h2]) λi hi=>?_
 rw [dh _ _ _ _ hl,Aj,h2]
 by_cases lZ:i < n
 .rw [aB lZ,aB (by omega),h3 i lZ]
 .rw [aA lZ,aA (by omega),aB (by omega)]
  congr 1
  omega

theorem zq0 (hs:bM ρ h w) (gy:ρ h.size=none) {A:Nat} {L:Loc} {cs eA us:List ai} {cur:Array ai} {fz:Nat × Nat} (hA:ρ A=some L) (hg:h.get A=some (.row cs e false))
 (oz:w.heap[L.b]? = some (.cells cur e fz)) (wu:qL e cur.size fz) (wx:cur.size=L.zE) (hm:cut cur.toList (L.s+o) eA.length=some m) (hv:cz ρ eA m) (hn:cz ρ news us)
 (oA:L.s+o+eA.length+us.length<=L.zE) :
 ∃ ρ',ρ' h.size=some ⟨L.b,L.s+o,L.zE⟩/\Fr ρ ρ' h ((h.set A .dead).push (.row (eA++news) e false)) w (w.setRow L.b (aI cur.toList (L.s+o+eA.length) us).toArray) /\
   bM ρ' ((h.set A .dead).push (.row (eA++news) e false)) (w.setRow L.b (aI cur.toList (L.s+o+eA.length) us).toArray):=by
 have pB:A < h.size:=Heap.ao hg
 have fC:∀ A L',ρ A=some L'->(λA=>if A=h.size then some (⟨L.b,L.s+o,L.zE⟩:Loc) else ρ A) A=some L':=by
  intro A L' hA
  have aL:A≠h.size:=λe=>by rw [e,gy] at hA;cases hA
  simp only [aA aL]
  exact hA
 have vp:=setRow_heap w L.b cur (aI cur.toList (L.s+o+eA.length) us).toArray e _ oz
 have me:∀ b,b≠L.b->(w.setRow L.b (aI cur.toList (L.s+o+eA.length) us).toArray).heap[b]? = w.heap[b]? := λb hb=>setRow_other w L.b b _ hb
 have dV:(w.setRow L.b (aI cur.toList (L.s+o+eA.length) us).toArray).heap.size=w.heap.size:=by simp [World.setRow]
 have ga:∀ j,((h.set A .dead).push (.row (eA++news) e false)).get j=if j=h.size then some (.row (eA++news) e false) else if j=A then some .dead else h.get j:=by
  intro j
  rw [Heap.bH,Heap.size_set,Heap.aH _ _ _ _ pB]
 have aL:∀ A' L',ρ A'=some L'->A'≠A->live h A'->L'.b≠L.b:=by
  intro A' L' fw e' nB heq
  rcases hs.inj A' A L' L fw hA e' heq with h1|h1|h1
  .exact h1 nB
  .exact h1 ⟨_,hg,by simp⟩
  .obtain ⟨_,Qe,e2,mV⟩:=h1
   rw [hg] at mV
   cases mV
 refine ⟨λA=>if A=h.size then some ⟨L.b,L.s+o,L.zE⟩ else ρ A,by simp,⟨fC,?_,rfl,rfl,rfl,by rw [dV];exact aQ _,?_,xj _ _,?_,?_⟩,⟨?_,?_⟩⟩
 .intro A' L' fw hn'
  split at fw
  .rename_i e1
   cases fw
   refine ⟨by omega,by rw [Heap.size_push,Heap.size_set];omega,.inr ⟨A,L,hA,rfl,?_,by rw [Heap.size_push,Heap.size_set];omega⟩⟩
   rw [Heap.eO,Heap.cA]
   omega
  .rw [hn'] at fw;cases fw
 .rw [Heap.size_push,Heap.size_set];omega
 .intro b hb aE
  refine me b λe'=>?_
  subst e'
  have:=aE A L hA rfl
  rw [Heap.eO,Heap.cA,Heap.size_push,Heap.size_set] at this
  omega
 .intro A' fw hl
  rw [Heap.eO,Heap.cA] at hl
  rw [ga,aA (by omega),aA (by omega)]
 .intro A' L' fw
  rw [ga]
  split at fw
  .rename_i e1
   cases fw
   rw [aB e1]
   refine ⟨_,fz,vp,?_,?_,m++us,?_,(hv.append hn).mono fC⟩
   .rw [List.size_toArray,BI (by simp;omega)]
    simpa using wu
   .show (aI cur.toList (L.s+o+eA.length) us).toArray.size=L.zE
    rw [List.size_toArray,BI (by simp;omega)]
    simpa using wx
   .show cut (aI cur.toList (L.s+o+eA.length) us) (L.s+o) (eA++news).length=some (m++us)
    rw [cT,hn.1]
    exact ztm hm (by simp;omega)
  .rename_i e1
   rw [aA e1]
   by_cases e2:A'=A
   .rw [aB e2]
    show L'.b < _
    rw [dV]
    exact hs.lt fw
   .rw [aA e2]
    exact (hs.lx A' L' fw).fN fC (by rw [dV];exact aQ _) λhl=>me L'.b (aL A' L' fw e2 hl)
 .intro A1 A2 L1 L2 h1 h2 Jh hb
  unfold live m7
  rw [ga,ga]
  have jw:∀ A' L',A'≠h.size->ρ A'=some L'->L.b=L'.b->¬ ∃ b,(if A'=A then some aZ.dead else h.get A')=some b/\b≠.dead:=by
   intro A' L' hh fw tW
   by_cases e2:A'=A
   .simp [e2]
   .rw [aA e2]
    exact λnB=>aL A' L' fw e2 nB tW.symm
  split at h1
  .rename_i e1
   split at h2
   .omega
   .rename_i e2
    cases h1
    right;left
    rw [aA e2]
    exact jw A2 L2 e2 h2 hb
  .rename_i e1
   split at h2
   .rename_i e2
    cases h2
    left
    rw [aA e1]
    exact jw A1 L1 e1 h1 hb.symm
   .rename_i e2
    rw [aA e1,aA e2]
    by_cases f1:A1=A
    .left;simp [f1]
    .by_cases f2:A2=A
     .right;left;simp [f2]
     .rw [aA f1,aA f2]
      exact hs.inj A1 A2 L1 L2 h1 h2 Jh hb

theorem BZ (hk:0 < k) (hG:q < G):G<=G*k+q/\(G*k+q) % G=q/\(G*k+q) / G=k:=by
 refine ⟨?_,?_,?_⟩
 .calc G=G*1:=(Nat.mul_one _).symm
   _<=G*k:=Nat.mul_le_mul_left _ hk
   _<=G*k+q:=G5 _ _
 .rw [Nat.mul_add_mod,Cj hG]
 .rw [Nat.mul_add_div (by unfold G;omega),Nat.div_eq_of_lt hG,gS]

theorem zl0 (hT:T.Fits P) (hs:bM ρ h w) (b8:fj ρ h h') {s s' x x' v:ai} (hu:Mu P u) (pK:VR ρ s s') (hx:VR ρ x x') (ha:j4 T t s x h=some (v,h')) :
 ∃ ρ' vc w',(Builtin.append_ #[t,u] ty #[s',x']).run P w=.ok vc w'/\Fr ρ ρ' h h' w w'/\bM ρ' h' w'/\VR ρ' v vc:=by
 unfold j4 at ha
 split at ha
 .rename_i e hd
  have ht:=hT.desc _ _ hd
  simp only [cy,Prod.exists] at ha
  obtain ⟨k,bytes,z,ie,m,news,kW,ha⟩:=ha
  obtain ⟨i,zv,hi,rfl,rfl,hz,rfl,zr,qo⟩:=hT.info e k bytes z ie
  obtain ⟨us,r9,JL,hlen,ey⟩:=zlD (P:=P) hs hx kW
  have vz:us.take (m*i.size)=us:=iR (by omega)
  have hf:∀ W:World,W.heap=w.heap->(Builtin.firstCells i.size m x').run P W=.ok us.toArray W:=λW hW=>by
   have:=ey W hW m (aQ _)
   rwa [vz] at this
  split at ha
  .rename_i base n c
   split at ha
   .rename_i hm
    subst hm
    cases ha
    have h0:=ey w rfl 0 (aQ _)
    simp only [Nat.zero_mul,Fj] at h0
    have key:∃ a' c',s'=.slice a' n c'/\n<=c':=by
     cases pK with
     |dD=>exact ⟨_,_,rfl,aQ _⟩
     |slice hA hc hn fK=>exact ⟨_,_,rfl,hn⟩
     |cW hA hc gx hn hk hm fK=>exact ⟨_,_,rfl,by omega⟩
    obtain ⟨a',c',rfl,hn⟩:=key
    exact ⟨ρ,_,w,zjX ht hu hi hlen h0 hn,Fr.refl _ _ _,hs,pK⟩
   .rename_i hm
    split at ha
    .cases ha
    .rename_i ki
     simp only [sF,ix,yi,not_or,Bool.not_eq_false] at ki
     obtain ⟨⟨⟨rY,Su⟩,h60⟩,jw⟩:=ki
     have FM:0 < i.size:=by omega
     split at ha
     .rename_i nE
      split at ha
      .rename_i A o
       split at ha
       .rename_i nx
        simp only [cn,cR] at ha
        obtain ⟨h1,Nv,rfl,rfl⟩:=ha
        cases pK with
        |slice hA hc hn fK =>
         rename_i L ad
         obtain rfl:=fK (by have:=Cj hc;omega)
         obtain ⟨w',cV,dI,ei⟩:=K1 (P:=P) hs hA r9 Nv
         have lC:c % G=c:=Cj hc
         rw [<- oU] at cV
         exact ⟨ρ,_,w',Vd ht hu hi hlen (hf w rfl) (by omega) (by rw [Addr.add_mid];exact cV),dI,ei,.slice hA hc (by omega) (λ_=>rfl)⟩
        |cW hA hc gx hn hk Be fK =>
         rename_i c' L ad
         obtain ⟨w',cV,dI,ei⟩:=K1 (P:=P) hs hA r9 Nv
         have jn:c'≠0:=by omega
         obtain ⟨rfl,oA⟩:=fK jn
         rw [<- oU] at cV
         exact ⟨ρ,_,w',Vd ht hu hi hlen (hf w rfl) (by omega) (by rw [Addr.add_mid];exact cV),dI,ei,.cW hA hc gx (by omega) hk Be (λ_=>⟨rfl,oA⟩)⟩
       .cases ha
      .cases ha
     .rename_i nE
      simp only [cy] at ha
      obtain ⟨eA,hold,ha⟩:=ha
      obtain ⟨a',c',mo,rfl,TW,Jg,hfo⟩:=Vg (P:=P) hs pK hold
      have Dh:mo.take (n*i.size)=mo:=iR (by omega)
      have SK:∀ W:World,W.heap=w.heap->(Builtin.firstCells i.size n (.slice a' n c')).run P W=.ok mo.toArray W:=λW hW=>by
       have:=hfo W hW n (aQ _)
       rwa [Dh] at this
      have mE:=BZ (q:=n+m) FM (by unfold G;omega)
      have grown:∀ (h2:Heap),bM ρ h2 w->ρ h2.size=none->c' < n+m->∃ ρ' vc w',(Builtin.append_ #[t,u] ty #[.slice a' n c',x']).run P w=.ok vc w'/\Fr ρ ρ' h2 (h2.push (.row (eA++news) e false)) w w'/\bM ρ' (h2.push (.row (eA++news) e false)) w' /\
       VR ρ' (.slice (some ⟨h2.size,0,none⟩) (n+m) (G*i.size+(n+m))) vc:=by
       intro h2 eE ze bc
       have hr:=zit (w:=w) (ty:=ty) ht hu hi hz hlen (hf w.drew rfl) (SK w.drew rfl) bc (by omega) (by omega)
       have tb:=grownCap_ge w (n+m) c' e
       have hle:=grownCap_le_maxLen w (n+m) c' e (by unfold maxLen;omega)
       have JR:zv.cells.size=i.size:=by rw [<- uE,zr]
       have I9:((mo++us)++(Builtin.zeroCells zv.cells (grownCap w (n+m) c' e - (n+m))).toList).length=grownCap w (n+m) c' e*i.size:=by
        simp only [cT,Jg,JL,uE,size_zeroCells,JR,<- qH]
        congr 1
        omega
       have Td:(eA++news).length=(mo++us).length:=by simp [TW.1,r9.1]
       obtain ⟨ρ',hρ,dI,ei⟩:=Gp (W:=w.drew.alloc (.cells ((mo++us)++(Builtin.zeroCells zv.cells (grownCap w (n+m) c' e - (n+m))).toList).toArray e)) (cs:=eA++news) (m:=mo++us) eE ze rfl rfl rfl rfl
        (by rw [Td]
            refine uz (by simp) rfl λj hj=>?_
            rw [i5]
            exact (jC (l₂:=(Builtin.zeroCells zv.cells (grownCap w (n+m) c' e - (n+m))).toList) hj).symm)
        (TW.append r9)
       refine ⟨ρ',_,_,hr,dI,ei,?_⟩
       refine .cW hρ mE.1 (by rw [mE.2.1];exact tb) (by rw [mE.2.1];exact aQ _) (by rw [mE.2.2];exact FM) hle (λ_=>⟨by simp,?_⟩)
       rw [mE.2.2]
       simp only [List.size_toArray,I9]
       omega
      split at ha
      .rename_i hc
       cases ha
       have lC:c % G=c:=Cj hc
       have sU:c'=c:=by
        cases pK with
        |dD=>rfl
        |slice hA hc hn fK=>rfl
        |cW hA dO gx hn hk hm fK=>omega
       exact grown h hs (b8 _ (aQ _) (by rw [Heap.size_push];omega)) (by omega)
      .rename_i hc
       split at ha
       .rename_i A o
        split at ha
        .rename_i cs e' hg
         split at ha
         .rename_i Ze
          simp only [dW,ix] at Ze
          obtain ⟨rfl,nx⟩:=Ze
          cases ha
          cases pK with
          |slice hA dO hn fK=>omega
          |cW hA dO gx hn hk Be fK =>
           rename_i L ad
           by_cases aU:n+m<=c'
           .have jn:c'≠0:=by omega
            obtain ⟨rfl,oA⟩:=fK jn
            have hb:=hs.lx A L hA
            rw [hg] at hb
            obtain ⟨cur,fz,oz,wu,wx,m0,y6,TS⟩:=hb
            obtain ⟨k1,k2,k3⟩:=BR y6
            rw [nx] at oA
            have hmul:(n+m)*i.size<=c'*i.size:=tN _ aU
            rw [qH] at hmul
            have Bh:eA.length=n*i.size:=by rw [TW.1];exact Jg
            have ID:∃ mm,cut cur.toList (L.s+o) eA.length=some mm/\cz ρ eA mm:=by
             simp only [mJ] at hold
             split at hold
             .cases hold
              exact ⟨[],uz (by simp;omega) rfl (by intro i hi;simp at hi),.nil ρ⟩
             .simp only [kA,hg] at hold
              obtain ⟨d,kC,DT⟩:=TS.cut hold
              obtain ⟨d1,d2,d3⟩:=BR kC
              refine ⟨d,uz (by simp at k1 ⊢;omega) (by rw [Bh];exact d2) (λj hj=>?_),DT⟩
              rw [d3 j (by omega),k3 (o+j) (by omega),oU]
            obtain ⟨mm,Tl,TV⟩:=ID
            obtain ⟨ρ',hρ,dI,ei⟩:=zq0 hs (b8 _ (aQ _) (by rw [Heap.size_push,Heap.size_set];omega)) hA hg oz wu wx Tl TV r9 (by omega)
            have cV:=Va P L.b (L.s+o+eA.length) e' fz us 0 cur w oz wu (by simp;omega) (r9.one jw)
            simp only [gS] at cV
            refine ⟨ρ',_,_,Vd ht hu hi hlen (hf w rfl) aU (by rw [Addr.add_mid,<- Bh];exact cV),dI,ei,?_⟩
            refine .cW hρ mE.1 (by rw [mE.2.1];exact aU) (by rw [mE.2.1];exact aQ _) (by rw [mE.2.2];exact FM) Be (λ_=>⟨rfl,?_⟩)
            rw [mE.2.2]
            exact oA
           .obtain ⟨fr1,UK⟩:=zto hs hg
            obtain ⟨ρ',vc,w',hr,pA,UL,ql⟩:=grown _ UK (b8 _ (aQ _) (by rw [Heap.size_push,Heap.size_set];omega)) (by omega)
            exact ⟨ρ',vc,w',hr,fr1.trans pA,UL,ql⟩
         .cases ha
        .cases ha
       .cases ha
  .cases ha
 .cases ha

end
end Go.Am
namespace Go.Am
open Go.RowKit
variable {t:TypeId} {v:ai}

theorem K4 {Z:Type} (P:Program):∀ (c:Sem Z) (a:Z),gd P c=some a->∀ w,c.run P w=.ok a w
 | .pure b,a,h,w=>by simp only [gd] at h;cases h;rfl
 | .program k,a,h,w=>by simp only [gd] at h;exact K4 P (k P) a h w
 | .mark m k,a,h,w=>by simp only [gd] at h;exact K4 P k a h w
 | .load ..,_,h,_=>by simp [gd] at h
 | .store ..,_,h,_=>by simp [gd] at h
 | .new ..,_,h,_=>by simp [gd] at h
 | .shape ..,_,h,_=>by simp [gd] at h
 | .freeze ..,_,h,_=>by simp [gd] at h
 | .frozen ..,_,h,_=>by simp [gd] at h
 | .getObj ..,_,h,_=>by simp [gd] at h
 | .setObj ..,_,h,_=>by simp [gd] at h
 | .choose ..,_,h,_=>by simp [gd] at h
 | .sys ..,_,h,_=>by simp [gd] at h
 | .halt ..,_,h,_=>by simp [gd] at h

section
variable {P:Program} {T:bN} {ρ:ct} {h h':Heap} {w:World}

theorem zqV (hT:T.Fits P) {n:Nat} (hn:dF T t=some n):∃ i,P.info? t=some i/\i.size=n:=by
 simp only [dF,cn,Prod.exists] at hn
 obtain ⟨a,b,c,hi,rfl⟩:=hn
 obtain ⟨i,zv,h1,h2,_⟩:=hT.info t a b c hi
 exact ⟨i,h1,h2⟩

theorem tC (hT:T.Fits P) {n:Nat} (hn:dF T t=some n) (w:World):(sizeOf t).run P w=.ok n w:=by
 obtain ⟨i,hi,rfl⟩:=zqV hT hn
 simp [sizeOf,typeInfo,hi]

theorem zqa (hT:T.Fits P) (hs:bM ρ h w) {u ty:TypeId} {d d' s s':ai} (hd:VR ρ d d') (pK:VR ρ s s') (hc:My T t d s h=some (v,h')) :
 ∃ vc w',(Builtin.copy_ #[t,u] ty #[d',s']).run P w=.ok vc w'/\Fr ρ ρ h h' w w'/\bM ρ h' w'/\VR ρ v vc:=by
 unfold My at hc
 split at hc
 .rename_i e a n c xw
  have ht:=hT.desc _ _ xw
  simp only [cy,Prod.exists] at hc
  obtain ⟨k,hk,m,src,kW,hc⟩:=hc
  obtain ⟨us,r9,JL,hlen,ey⟩:=zlD (P:=P) hs pK kW
  have dV:=tC hT hk w
  have hf:=ey w rfl (min m n) (xj _ _)
  split at hc
  .rename_i h0
   cases hc
   rw [h0] at hf
   simp only [Nat.zero_mul,Fj] at hf
   have Du:Nat.min m n=0:=h0
   have key:∃ a' c',d'=.slice a' n c':=by cases hd <;> exact ⟨_,_,rfl⟩
   obtain ⟨a',c',rfl⟩:=key
   refine ⟨.int .i64 0,w,?_,Fr.refl _ _ _,hs,.int _ _⟩
   cases a' <;> simp [Builtin.copy_,run_underlying ht,hlen,Du,dV,hf,storeCells,goInt]
  .rename_i h0
   have Du:Nat.min m n=min m n:=rfl
   split at hc
   .rename_i A o
    simp only [cn,cR] at hc
    obtain ⟨h1,Nv,rfl,rfl⟩:=hc
    have key:∃ L c',ρ A=some L/\d'=.slice (some ⟨L.b,L.s+o,none⟩) n c':=by
     cases hd with
     |slice hA hc hn fK =>
      obtain rfl:=fK (by omega)
      exact ⟨_,_,hA,rfl⟩
     |cW hA hc gx hn hk hm fK =>
      obtain ⟨rfl,_⟩:=fK (by omega)
      exact ⟨_,_,hA,rfl⟩
    obtain ⟨L,c',hA,rfl⟩:=key
    obtain ⟨w',cV,dI,ei⟩:=K1 (P:=P) hs hA (r9.take _) Nv
    refine ⟨.int .i64 (min m n:Nat),w',?_,dI,ei,.int _ _⟩
    simp [Builtin.copy_,run_underlying ht,hlen,Du,dV,hf,cV,goInt]
   .cases hc
 .cases hc

theorem zn3 (hT:T.Fits P) (hs:bM ρ h w) {ty:TypeId} {x x':ai} (hx:VR ρ x x') (hc:uy T t x h=some h') :
 ∃ w',(Builtin.clear_ #[t] ty #[x']).run P w=.ok undef w'/\Fr ρ ρ h h' w w'/\bM ρ h' w':=by
 unfold uy at hc
 split at hc
 .rename_i e a n c xw
  have ht:=hT.desc _ _ xw
  split at hc
  .rename_i h0
   subst h0
   cases hc
   have key:∃ a' c',x'=.slice a' 0 c':=by cases hx <;> exact ⟨_,_,rfl⟩
   obtain ⟨a',c',rfl⟩:=key
   refine ⟨w,?_,Fr.refl _ _ _,hs⟩
   cases a' <;> simp [Builtin.clear_,run_underlying ht,undef]
  .rename_i h0
   simp only [cy,Prod.exists] at hc
   obtain ⟨k,tT,z,ie,hc⟩:=hc
   obtain ⟨i,zv,hi,rfl,rfl,hz,rfl,zr,qo⟩:=hT.info e k tT z ie
   split at hc
   .rename_i A o
    have key:∃ L c',ρ A=some L/\x'=.slice (some ⟨L.b,L.s+o,none⟩) n c':=by
     cases hx with
     |slice hA hc hn fK =>
      obtain rfl:=fK (by omega)
      exact ⟨_,_,hA,rfl⟩
     |cW hA hc gx hn hk hm fK =>
      obtain ⟨rfl,_⟩:=fK (by omega)
      exact ⟨_,_,hA,rfl⟩
    obtain ⟨L,c',hA,rfl⟩:=key
    obtain ⟨w',cV,dI,ei⟩:=K1 (P:=P) hs hA (cz.plain ρ (Vw qo n)) hc
    refine ⟨w',?_,dI,ei⟩
    have hzc:(Builtin.zeroCells zv.cells n).toList=nh zv.cells.toList n:=Vb zv.cells n
    obtain ⟨n',rfl⟩:∃ n',n=n'+1:=⟨n - 1,by omega⟩
    simp [Builtin.clear_,run_underlying ht,zeroValue,typeInfo,hi,hz,hzc,cV,undef]
   .cases hc
 .cases hc

theorem zir (hT:T.Fits P) (hs:bM ρ h w) (b8:fj ρ h h') {l l' c c':ai} (hl:VR ρ l l') (hc:VR ρ c c') (hm:Li T t l c h=some (v,h')) :
 ∃ ρ' vc w',(Instr.makeSlice t l' c').run P w=.ok vc w'/\Fr ρ ρ' h h' w w'/\bM ρ' h' w'/\VR ρ' v vc:=by
 unfold Li at hm
 split at hm
 .rename_i e k1 l k2 c xw
  cases hl
  cases hc
  have ht:=hT.desc _ _ xw
  simp only [cy,Prod.exists] at hm
  obtain ⟨k,tT,z,ie,hm⟩:=hm
  obtain ⟨i,zv,hi,rfl,rfl,hz,rfl,zr,qo⟩:=hT.info e k tT z ie
  split at hm
  .rename_i hh
   obtain ⟨h0,FN,h60,Su⟩:=hh
   cases hm
   have hr:=run_make (P:=P) w t e i zv ht hi hz k1 k2 l c h0 FN (by rw [Int.mul_comm];omega) (by omega)
   have JR:zv.cells.size=i.size:=by rw [<- uE,zr]
   have vO:(madeCells zv.cells (c.toNat*i.size)).toList=nh zv.cells.toList c.toNat:=by
    rw [<- JR]
    exact Vb zv.cells c.toNat
   obtain ⟨ρ',hρ,dI,ei⟩:=Gp (W:=w.alloc (.cells (madeCells zv.cells (c.toNat*i.size)) e)) (cs:=nh zv.cells.toList c.toNat) (m:=nh zv.cells.toList c.toNat) hs (b8 _ (aQ _) (by rw [Heap.size_push];omega)) rfl rfl rfl rfl
    (by rw [vO];exact uz (by omega) rfl (λj _=>by rw [i5])) (cz.plain ρ (Vw qo _))
   refine ⟨ρ',_,_,hr,dI,ei,?_⟩
   have:=VR.slice (ρ:=ρ') (o:=0) (n:=l.toNat) (c:=c.toNat) hρ (by unfold G;omega) (by omega) (λ_=>rfl)
   simpa using this
  .cases hm
 .cases hm

theorem zll (off:Nat):∀ (l:List ai) (k:Nat) (cs:Array ai),off+k+l.length<=cs.size ->
 ((l.zipIdx k).foldl (λcs (x:ai × Nat)=>cs.setIfInBounds (off+x.2) x.1) cs).toList=aI cs.toList (off+k) l
 | [],k,cs,_=>by simp [aI]
 |v::l,k,cs,hl=>by
  simp only [List.zipIdx_cons,tP]
  have yV:off+k+(l.length+1)<=cs.size:=by simpa using hl
  rw [zll off l (k+1) _ (by simp;omega)]
  apply xi
  intro i
  rw [dh _ _ _ _ (by simp;omega),dh _ _ _ _ (by simp;omega)]
  simp only [Array.toList_setIfInBounds,G1,eB,uE]
  by_cases h1:i < off+k
  .rw [aB h1,aB (by omega),aA (by omega)]
  .rw [aA h1]
   by_cases h2:i=off+k
   .subst h2
    rw [aB (by omega),aB rfl,aB (by omega),aB (by omega)]
    simp
   .rw [aA (by omega)]
    by_cases h3:i < off+k+(l.length+1)
    .rw [aB (by omega),aB h3]
     obtain ⟨j,rfl⟩:∃ j,i=off+k+1+j:=⟨i - (off+k+1),by omega⟩
     rw [show off+k+1+j - (off+(k+1))=j by omega,show off+k+1+j - (off+k)=j+1 by omega]
     simp
    .rw [aA (by omega),aA h3,aA (by omega)]

theorem Le {place place':Nat->Option (Nat × Nat)} (hp:∀ i r,place i=some r->place' i=some r):∀ (parts dC:List (Nat × ai)) (cs mD:List ai) (ds:Array ai),
 parts.length=dC.length->(∀ (i:Nat) (x y:Nat × ai),parts[i]? = some x->dC[i]? = some y->x.1=y.1/\VR ρ x.2 y.2)->cz ρ cs ds.toList->pZ place cs parts=some mD ->
 ∃ MP,Instr.fill place' ds dC=some MP/\cz ρ mD MP.toList
 | [],[],cs,mD,ds,_,_,hv,hf=>by
  simp only [pZ] at hf
  cases hf
  exact ⟨ds,rfl,hv⟩
 |(i,v)::parts,(j,u)::dC,cs,mD,ds,hlen,aE,hv,hf=>by
  obtain ⟨fk,o9⟩:=aE 0 _ _ rfl rfl
  simp only at fk o9
  subst fk
  simp only [pZ,cy,Prod.exists] at hf
  obtain ⟨o,n,zj,hf⟩:=hf
  split at hf
  .rename_i hc
   have jd:u.cells.size=v.cells.size:=by have:=o9.cells.1;simpa using this.symm
   have Zd:ds.size=cs.length:=by have:=hv.1;simpa using this.symm
   have IU:=zll o u.cells.toList 0 ds (by simp;omega)
   have IK:(u.cells.zipIdx.foldl (λcs (x:ai × Nat)=>cs.setIfInBounds (o+x.2) x.1) ds).toList=aI ds.toList o u.cells.toList:=by
    rw [<- Array.foldl_toList,Array.toList_zipIdx]
    simpa using IU
   have tt:cz ρ (aI cs o v.cells.toList) (u.cells.zipIdx.foldl (λcs (x:ai × Nat)=>cs.setIfInBounds (o+x.2) x.1) ds).toList:=by
    rw [IK]
    exact hv.aI o o9.cells
   obtain ⟨MP,iY,kC⟩:=Le hp parts dC _ mD _ (by simpa using hlen) (λi x y hx hy=>aE (i+1) x y (by simpa using hx) (by simpa using hy)) tt hf
   refine ⟨MP,?_,kC⟩
   simp only [Instr.fill,hp i _ zj]
   rw [aA (by simp;omega)]
   exact iY
  .cases hf
 | [],_::_,_,_,_,hlen,_,_,_=>by simp at hlen
 |_::_,[],_,_,_,hlen,_,_,_=>by simp at hlen

theorem zg2 (hT:T.Fits P):∀ (fs:List Field) (ps:List (Nat × Nat)) (w:World),LJ T fs=some ps->(fs.mapM λf=>do pure (f.offset,<- sizeOf f.type):Sem (List (Nat × Nat))).run P w=.ok ps w
 | [],ps,w,hp=>by simp only [LJ] at hp;cases hp;simp
 |f::fs,ps,w,hp=>by
  simp only [LJ,cy,cn] at hp
  obtain ⟨n,hn,r,hr,rfl⟩:=hp
  rw [List.mapM_cons]
  simp only [Sem.run_bind,tC hT hn,Result.andThen_ok,Sem.run_pure]
  have ih:=zg2 hT fs r w hr
  rw [ih]
  rfl

theorem znX (hT:T.Fits P) {parts dC:List (Nat × ai)} (hlen:parts.length=dC.length)
 (aE:∀ (i:Nat) (x y:Nat × ai),parts[i]? = some x->dC[i]? = some y->x.1=y.1/\VR ρ x.2 y.2) (hb:nP T t parts=some v) (w:World) :
 ∃ vc,(Instr.build t dC.toArray).run P w=.ok vc w/\VR ρ v vc:=by
 simp only [nP,cy,Prod.exists] at hb
 obtain ⟨k,tT,z,ie,hb⟩:=hb
 obtain ⟨i,zv,hi,rfl,rfl,hz,rfl,zr,qo⟩:=hT.info t k tT z ie
 split at hb
 .rename_i fs hd
  have ht:=hT.desc _ _ hd
  simp only [cy,cn] at hb
  obtain ⟨ps,FR,cs,hf,rfl⟩:=hb
  obtain ⟨ds,iY,kC⟩:=Le (ρ:=ρ) (place':=(ps.toArray[·]?)) (λi r hr=>by simpa using hr) parts dC _ cs zv.cells hlen aE (cz.plain ρ qo) hf
  refine ⟨.agg ds,?_,?_⟩
  .have hm:=zg2 hT fs.toList ps w FR
   have vN:(fs.mapM λf=>do pure (f.offset,<- sizeOf f.type):Sem (Array (Nat × Nat))).run P w=.ok ps.toArray w:=by
    rw [Array.mapM_eq_mapM_toList]
    simp only [Sem.run_map,hm,Result.andThen_ok]
   simp only [Instr.build,zeroValue,typeInfo,Sem.run_bind,run_program,Result.andThen_ok,hi,Sem.run_pure,hz,run_underlying ht,vN,iY]
  .have:=kC.toArray
   simpa using this
 .rename_i n e hd
  have ht:=hT.desc _ _ hd
  simp only [cy,cn] at hb
  obtain ⟨k,hk,cs,hf,rfl⟩:=hb
  obtain ⟨ds,iY,kC⟩:=Le (ρ:=ρ) (place':=λi=>some (i*k,k)) (λi r hr=>hr) parts dC _ cs zv.cells hlen aE (cz.plain ρ qo) hf
  refine ⟨.agg ds,?_,?_⟩
  .simp only [Instr.build,zeroValue,typeInfo,Sem.run_bind,run_program,Result.andThen_ok,hi,Sem.run_pure,hz,run_underlying ht,tC hT hk,iY]
  .have:=kC.toArray
   simpa using this
 .cases hb

theorem zho (hT:T.Fits P) (hs:bM ρ h w) (b8:fj ρ h h') {len:Nat} {parts dC:List (Nat × ai)} (hlen:parts.length=dC.length)
 (aE:∀ (i:Nat) (x y:Nat × ai),parts[i]? = some x->dC[i]? = some y->x.1=y.1/\VR ρ x.2 y.2) (hb:wW T t len parts h=some (v,h')) :
 ∃ ρ' vc w',(Instr.buildSlice t len dC.toArray).run P w=.ok vc w'/\Fr ρ ρ' h h' w w'/\bM ρ' h' w'/\VR ρ' v vc:=by
 unfold wW at hb
 split at hb
 .rename_i e hd
  have ht:=hT.desc _ _ hd
  simp only [cy,Prod.exists] at hb
  obtain ⟨k,tT,z,ie,hb⟩:=hb
  obtain ⟨i,zv,hi,rfl,rfl,hz,rfl,zr,qo⟩:=hT.info e k tT z ie
  split at hb
  .cases hb
  .rename_i TI
   simp only [sF,ix,not_or] at TI
   obtain ⟨TI,ahb⟩:=TI
   have hG:len < G:=by unfold G;omega
   simp only [cn,cR] at hb
   obtain ⟨cs,hf,rfl,rfl⟩:=hb
   have JR:zv.cells.size=i.size:=by rw [<- uE,zr]
   by_cases h0:len*i.size=0
   .have tu:nh zv.cells.toList len=[]:=by
     apply LA
     rw [zmw,zr]
     exact h0
    rw [tu] at hf
    obtain ⟨ds,iY,kC⟩:=Le (ρ:=ρ) (place':=λj=>some (j*i.size,i.size)) (λi r hr=>hr) parts dC _ cs #[] hlen aE (.nil ρ) hf
    obtain ⟨ρ',hρ,dI,ei⟩:=Gp (W:=w.alloc (.cells ds e)) (cs:=cs) (m:=ds.toList) hs (b8 _ (aQ _) (by rw [Heap.size_push];omega)) rfl rfl rfl rfl (by rw [kC.1];exact uz (by omega) rfl (λj _=>by rw [i5])) kC
    refine ⟨ρ',.slice (some ⟨w.heap.size,0,none⟩) len len,w.alloc (.cells ds e),?_,dI,ei,?_⟩
    .have JC:¬ (16777216 < len*i.size):=by omega
     simp [Instr.buildSlice,run_underlying ht,sizeOf,typeInfo,hi,h0,Array.range_zero',iY,Go.newRow]
    .have:=VR.slice (ρ:=ρ') (o:=0) (n:=len) (c:=len) hρ hG (aQ _) (λ_=>rfl)
     simpa using this
   .have vO:((Array.range (len*i.size)).map (zv.cells[· % zv.cells.size]!)).toList=nh zv.cells.toList len:=by
     have:=Vb zv.cells len
     simp only [JR] at this ⊢
     exact this
    obtain ⟨ds,iY,kC⟩:=Le (ρ:=ρ) (place':=λj=>some (j*i.size,i.size)) (λi r hr=>hr) parts dC _ cs ((Array.range (len*i.size)).map (zv.cells[· % zv.cells.size]!)) hlen aE
     (by rw [vO];exact cz.plain ρ (Vw qo _)) hf
    obtain ⟨ρ',hρ,dI,ei⟩:=Gp (W:=w.alloc (.cells ds e)) (cs:=cs) (m:=ds.toList) hs (b8 _ (aQ _) (by rw [Heap.size_push];omega)) rfl rfl rfl rfl (by rw [kC.1];exact uz (by omega) rfl (λj _=>by rw [i5])) kC
    refine ⟨ρ',.slice (some ⟨w.heap.size,0,none⟩) len len,w.alloc (.cells ds e),?_,dI,ei,?_⟩
    .have JC:¬ (16777216 < len*i.size):=by omega
     simp only [Instr.buildSlice,Sem.run_bind,run_underlying ht,Result.andThen_ok,sizeOf,typeInfo,run_program,hi,Sem.run_pure,gt_iff_lt]
     simp [JC,h0,zeroValue,typeInfo,hi,hz,iY,Go.newRow]
    .have:=VR.slice (ρ:=ρ') (o:=0) (n:=len) (c:=len) hρ hG (aQ _) (λ_=>rfl)
     simpa using this
 .cases hb

end
end Go.Am
namespace Go.Am
open Go.RowKit
variable {v x y:ai} {t:TypeId}

section
variable {P:Program} {T:bN} {ρ:ct} {h h':Heap} {w:World}

theorem N2 {hi i:Nat} (cN:VR ρ x y) (hb:xf x hi=some i) {lZ:Nat} (hle:hi<=lZ) (code:BoundsCode) (w:World):(Instr.sliceBound y lZ code).run P w=.ok i w/\i<=hi:=by
 cases cN with
 |int k n =>
  simp only [xf] at hb
  split at hb
  .rename_i hc
   cases hb
   have dO:0<=n/\n<=(lZ:Int):=⟨hc.1,by omega⟩
   exact ⟨by simp [Instr.sliceBound,asIntOf,dO],by omega⟩
  .cases hb
 |_=>simp [xf] at hb

def qJ (ρ:ct):Option ai->Option ai->Prop
 |none,none=>True
 |some x,some y=>VR ρ x y
 |_,_=>False

theorem K2 {len cap CH l' h' m':Nat} {l h m ll hh mm:Option ai} (hl:qJ ρ l ll) (vD:qJ ρ h hh) (hm:qJ ρ m mm) (hb:qz len cap l h m=some (l',h',m')) (hlen:len<=cap) (qT:cap<=CH) (sg:Bool) (w:World) :
 (Instr.sliceBounds sg len CH ll hh mm).run P w=.ok (l',h',if m.isSome then m' else CH) w/\l'<=h'/\h'<=m'/\m'<=cap:=by
 simp only [qz,cy,dR,cR] at hb
 obtain ⟨m1,gF,h1,xy,l1,ma,rfl,rfl,rfl⟩:=hb
 have wH:∀ (code:BoundsCode),(match ll with|some v=>Instr.sliceBound v h1 code|none=>(pure 0:Sem Nat)).run P w=.ok l1 w/\l1<=h1:=by
  intro code
  cases l with
  |none=>cases ll with
   |none=>simp only [dR] at ma;subst ma;exact ⟨rfl,jl _⟩
   |some v=>exact hl.elim
  |some x=>cases ll with
   |none=>exact hl.elim
   |some v=>exact N2 hl ma (aQ _) code w
 cases m with
 |none =>
  cases mm with
  |some v=>exact hm.elim
  |none =>
   simp only [dR] at gF
   subst gF
   cases h with
   |none=>cases hh with
    |some v=>exact vD.elim
    |none =>
     simp only [dR] at xy
     subst xy
     obtain ⟨k1,k2⟩:=wH .sliceB
     refine ⟨?_,k2,hlen,aQ _⟩
     simp only [Instr.sliceBounds,Sem.run_bind,Sem.run_pure,Result.andThen_ok,Cg,gH,if_false]
     cases ll with
     |none =>
      have e:l1=0:=by have:=k1;simp at this;exact this.symm
      simp [e]
     |some u =>
      have e:(Instr.sliceBound u len .sliceB).run P w=.ok l1 w:=k1
      simp only [Sem.run_bind,e,Result.andThen_ok,Sem.run_pure]
   |some x=>cases hh with
    |none=>exact vD.elim
    |some v =>
     have oo:=N2 (P:=P) vD xy qT (if sg then BoundsCode.sliceAcap else .sliceAlen) w
     obtain ⟨k1,k2⟩:=wH .sliceB
     refine ⟨?_,k2,oo.2,aQ _⟩
     simp only [Instr.sliceBounds,Sem.run_bind,Sem.run_pure,Result.andThen_ok,Cg,gH,if_false,oo.1]
     cases ll with
     |none =>
      have e:l1=0:=by have:=k1;simp at this;exact this.symm
      simp [e]
     |some u =>
      have e:(Instr.sliceBound u h1 .sliceB).run P w=.ok l1 w:=k1
      simp only [Sem.run_bind,e,Result.andThen_ok,Sem.run_pure]
 |some q =>
  cases mm with
  |none=>exact hm.elim
  |some v =>
   have AW:=N2 (P:=P) hm gF qT (if sg then BoundsCode.slice3Acap else .slice3Alen) w
   cases h with
   |none=>cases xy
   |some x=>cases hh with
    |none=>exact vD.elim
    |some v' =>
     have oo:=N2 (P:=P) vD xy (aQ _) BoundsCode.slice3B w
     obtain ⟨k1,k2⟩:=wH .slice3C
     refine ⟨?_,k2,oo.2,AW.2⟩
     simp only [Instr.sliceBounds,Sem.run_bind,Result.andThen_ok,GV,if_true,AW.1,oo.1]
     cases ll with
     |none =>
      have e:l1=0:=by have:=k1;simp at this;exact this.symm
      simp [e]
     |some u =>
      have e:(Instr.sliceBound u h1 .slice3C).run P w=.ok l1 w:=k1
      simp only [Sem.run_bind,e,Result.andThen_ok,Sem.run_pure]

theorem zpf (hT:T.Fits P) {l hi m ll hh mm:Option ai} (cN:VR ρ x y) (hl:qJ ρ l ll) (vD:qJ ρ hi hh) (hm:qJ ρ m mm) (hs:lf T t x l hi m=some v) (w:World) :
 ∃ vc,(Instr.sliceAt t y ll hh mm).run P w=.ok vc w/\VR ρ v vc:=by
 unfold lf at hs
 split at hs
 .rename_i s hd
  cases cN
  have ht:=hT.desc _ _ hd
  split at hs
  .cases hs
  .rename_i Tm
   have y6:m=none:=by cases m <;> simp_all
   subst y6
   have Tl:mm=none:=by cases mm with|none=>rfl|some _=>exact hm.elim
   subst Tl
   simp only [cn,Prod.exists] at hs
   obtain ⟨l',h',m',hb,rfl⟩:=hs
   obtain ⟨k1,k2,k3,k4⟩:=K2 (P:=P) (m:=none) (mm:=none) hl vD trivial hb (aQ _) (aQ _) false w
   refine ⟨_,?_,.string _⟩
   simp [Instr.sliceAt,Instr.slice,run_underlying ht,k1]
 .rename_i n e A o hd
  cases cN with
  |ptr hA =>
   rename_i L
   have ht:=hT.desc _ _ hd
   simp only [cy,cn,Prod.exists] at hs
   obtain ⟨l',h',m',hb,k,hk,rfl⟩:=hs
   have hnG:n < G:=by
    rcases mM n G with bc|tb
    .exact bc
    .rw [aA (by omega)] at hb;cases hb
   rw [aB hnG] at hb
   obtain ⟨k1,k2,k3,k4⟩:=K2 (P:=P) hl vD hm hb (aQ _) (aQ _) false w
   have y4:(if m.isSome then m' else n)=m':=by
    cases m with
    |some _=>rfl
    |none =>
     simp only [qz,cy,dR,cR] at hb
     obtain ⟨m1,gF,h1,xy,l1,ma,rfl,rfl,rfl⟩:=hb
     simp [gF]
   rw [y4] at k1
   have dV:=tC hT hk w
   refine ⟨.slice (some (if m'=l' then ⟨L.b,L.s+o,none⟩ else (⟨L.b,L.s+o,none⟩:Addr).add (l'*k))) (h' - l') (m' - l'),?_,?_⟩
   .simp only [Instr.sliceAt,Sem.run_bind,run_underlying ht,Result.andThen_ok,Instr.sureAddr,Sem.run_pure,k1,dV]
   .by_cases hG:m' - l' < G
    .refine .slice hA hG (by omega) (λh0=>?_)
     rw [aA (by omega),aA (by omega),Addr.add_mid,oU]
    .exfalso
     omega
 .rename_i e a n c hd
  have ht:=hT.desc _ _ hd
  simp only [cy] at hs
  obtain ⟨k,hk,hs⟩:=hs
  have dV:=tC hT hk w
  split at hs
  .rename_i hcG
   simp only [cy,Prod.exists] at hs
   obtain ⟨l',h',m',hb,hs⟩:=hs
   have y4:(if m.isSome then m' else c)=m':=by
    cases m with
    |some _=>rfl
    |none =>
     simp only [qz,cy,dR,cR] at hb
     obtain ⟨m1,gF,h1,xy,l1,ma,rfl,rfl,rfl⟩:=hb
     simp [gF]
   cases cN with
   |dD =>
    obtain ⟨k1,k2,k3,k4⟩:=K2 (P:=P) hl vD hm hb (aQ _) (aQ _) true w
    rw [y4] at k1
    simp only [dR] at hs
    subst hs
    have e1:h' - l'=0:=by omega
    have e2:m' - l'=0:=by omega
    refine ⟨.slice none (h' - l') (m' - l'),?_,by rw [e1,e2];exact .dD⟩
    simp [Instr.sliceAt,Instr.slice,run_underlying ht,k1,dV]
   |slice hA hc hn fK =>
    rename_i A o L ad
    obtain ⟨k1,k2,k3,k4⟩:=K2 (P:=P) hl vD hm hb hn (aQ _) true w
    rw [y4] at k1
    simp only [dR] at hs
    subst hs
    refine ⟨.slice (if m'=l' then some ad else some (ad.add (l'*k))) (h' - l') (m' - l'),?_,?_⟩
    .simp [Instr.sliceAt,Instr.slice,run_underlying ht,k1,dV]
    .have hx:(if m'=l' then some ad else some (ad.add (l'*k)))=some (if m'=l' then ad else ad.add (l'*k)):=by split <;> rfl
     rw [hx]
     refine .slice hA (by omega) (by omega) (λh0=>?_)
     rw [aA (by omega),aA (by omega),fK (by omega),Addr.add_mid,oU]
   |cW hA hc gx hn je Be fK=>omega
  .rename_i hcG
   split at hs
   .rename_i A o
    split at hs
    .rename_i nx
     simp only [cn,Prod.exists] at hs
     obtain ⟨l',h',m',hb,rfl⟩:=hs
     cases cN with
     |slice hA hc hn fK=>omega
     |cW hA hc gx hn je Be fK =>
      rename_i c' L ad
      obtain ⟨k1,k2,k3,k4⟩:=K2 (P:=P) hl vD hm hb hn gx true w
      cases m with
      |some q =>
       simp only [GV,if_true] at k1
       refine ⟨.slice (if m'=l' then some ad else some (ad.add (l'*k))) (h' - l') (m' - l'),?_,?_⟩
       .simp [Instr.sliceAt,Instr.slice,run_underlying ht,k1,dV]
       .have hx:(if m'=l' then some ad else some (ad.add (l'*k)))=some (if m'=l' then ad else ad.add (l'*k)):=by split <;> rfl
        rw [hx]
        have bc:c % G < G:=Nat.mod_lt _ (by unfold G;omega)
        refine .slice hA (by omega) (by omega) (λh0=>?_)
        rw [aA (by omega),aA (by omega),(fK (by omega)).1,Addr.add_mid,oU]
      |none =>
       simp only [Cg,gH,if_false] at k1
       have gF:m'=c % G:=by
        simp only [qz,cy,dR,cR] at hb
        obtain ⟨m1,gF,h1,xy,l1,ma,rfl,rfl,rfl⟩:=hb
        exact gF.symm
       subst gF
       refine ⟨.slice (if c'=l' then some ad else some (ad.add (l'*k))) (h' - l') (c' - l'),?_,?_⟩
       .simp [Instr.sliceAt,Instr.slice,run_underlying ht,k1,dV]
       .have hx:(if c'=l' then some ad else some (ad.add (l'*k)))=some (if c'=l' then ad else ad.add (l'*k)):=by split <;> rfl
        rw [hx]
        have bc:c % G < G:=Nat.mod_lt _ (by unfold G;omega)
        have mE:=BZ (k:=k) (q:=c % G - l') (by omega) (by omega)
        refine .cW hA mE.1 (by rw [mE.2.1];omega) (by rw [mE.2.1];omega) (by rw [mE.2.2];omega) (by omega) (λh0=>?_)
        obtain ⟨rfl,oA⟩:=fK (by omega)
        rw [aA (by omega),Addr.add_mid,mE.2.2]
        refine ⟨by rw [oU],?_⟩
        rw [nx] at oA
        have e1:c'*k=l'*k+(c' - l')*k:=by rw [<- qH];congr 1;omega
        omega
    .cases hs
   .cases hs
 .cases hs

theorem ziq (hT:T.Fits P) {i j:ai} (cN:VR ρ x y) (fk:VR ρ i j) (hs:kF T t x i=some v) (w:World) :
 ∃ vc,(Instr.indexAt t y j).run P w=.ok vc w/\VR ρ v vc:=by
 unfold kF at hs
 split at hs
 .rename_i k i
  cases fk
  split at hs
  .rename_i n e A o hd
   cases cN with
   |ptr hA =>
    rename_i L
    have ht:=hT.desc _ _ hd
    split at hs
    .rename_i hi
     simp only [cn] at hs
     obtain ⟨q,hq,rfl⟩:=hs
     refine ⟨.pointer (some ⟨L.b,L.s+(o+i.toNat*q),none⟩),?_,.ptr hA⟩
     simp [Instr.indexAt,asIntOf,run_underlying ht,Instr.sureAddr,hi,tC hT hq,Addr.add_mid,oU]
    .cases hs
  .rename_i e A o n c hd
   have ht:=hT.desc _ _ hd
   split at hs
   .rename_i hi
    simp only [cn] at hs
    obtain ⟨q,hq,rfl⟩:=hs
    have key:∃ L c',ρ A=some L/\y=.slice (some ⟨L.b,L.s+o,none⟩) n c':=by
     cases cN with
     |slice hA hc hn fK =>
      obtain rfl:=fK (by omega)
      exact ⟨_,_,hA,rfl⟩
     |cW hA hc gx hn hk hm fK =>
      obtain ⟨rfl,_⟩:=fK (by omega)
      exact ⟨_,_,hA,rfl⟩
    obtain ⟨L,c',hA,rfl⟩:=key
    refine ⟨.pointer (some ⟨L.b,L.s+(o+i.toNat*q),none⟩),?_,.ptr hA⟩
    simp [Instr.indexAt,asIntOf,run_underlying ht,hi,tC hT hq,Addr.add_mid,oU]
   .cases hs
  .cases hs
 .cases hs

theorem zio (hT:T.Fits P) {f:Nat} (cN:VR ρ x y) (hs:mu T t x f=some v) (w:World) :
 ∃ vc,(Instr.fieldAt t y f).run P w=.ok vc w/\VR ρ v vc:=by
 unfold mu at hs
 split at hs
 .rename_i fs A o hd
  cases cN with
  |ptr hA =>
   rename_i L
   have ht:=hT.desc _ _ hd
   simp only [cy] at hs
   obtain ⟨fl,hf,n,hn,hs⟩:=hs
   split at hs
   .cases hs
   .rename_i h0
    cases hs
    refine ⟨.pointer (some ⟨L.b,L.s+(o+fl.offset),none⟩),?_,.ptr hA⟩
    simp [Instr.fieldAt,run_underlying ht,hf,Instr.sureAddr,fieldPlace,tC hT hn,h0,Addr.add_mid,oU]
 .cases hs

theorem zjK (hT:T.Fits P) {cs:List ai} {ds:Array ai} {o:Nat} (hv:cz ρ cs ds.toList) (hs:An T t cs o=some v) (w:World) :
 ∃ vc,(part t ds o).run P w=.ok vc w/\VR ρ v vc:=by
 simp only [An,dw,cy,cn] at hs
 obtain ⟨g,⟨d,hd,hg⟩,hs⟩:=hs
 have ht:=hT.desc _ _ hd
 have oh:(isAgg t).run P w=.ok g w:=by
  unfold isAgg
  rw [Sem.run_bind,run_underlying ht w]
  cases d <;> simp_all
 cases g with
 |true =>
  simp only [if_true,cy,cn] at hs
  obtain ⟨n,hn,l,hl,rfl⟩:=hs
  obtain ⟨d',oZ,DT⟩:=hv.cut hl
  refine ⟨.agg d'.toArray,?_,DT.toArray⟩
  have hx:ds.extract o (o+n)=d'.toArray:=by
   unfold cut at oZ
   split at oZ
   .cases oZ
    apply Array.ext'
    simp [List.take_drop]
   .cases oZ
  simp [part,oh,tC hT hn,hx]
 |false =>
  simp only [gH,if_false] at hs
  obtain ⟨u,hu,o9⟩:=hv.get hs
  refine ⟨u,?_,o9⟩
  have xD:ds[o]? = some u:=by simpa using hu
  simp [part,oh,xD]

theorem zos (hT:T.Fits P) {f:Nat} (cN:VR ρ x y) (hs:Pg T t x f=some v) (w:World) :
 ∃ vc,(Instr.field t y f).run P w=.ok vc w/\VR ρ v vc:=by
 unfold Pg at hs
 split at hs
 .rename_i fs cs hd
  have ht:=hT.desc _ _ hd
  simp only [cy] at hs
  obtain ⟨fl,hf,hs⟩:=hs
  cases cN with
  |agg hc hh =>
   rename_i ds
   obtain ⟨vc,hr,hv⟩:=zjK hT (VR.agg hc hh).Ct hs w
   refine ⟨vc,?_,hv⟩
   simp [Instr.field,run_underlying ht,hf,asAgg,hr]
 .cases hs

theorem zl6 {op:BinOp} (hs:qy op x y=some v):gd P (binOp op t x y)=some v/\plain x=true/\plain y=true/\plain v=true/\(∃ k a,x=.int k a):=by
 unfold qy at hs
 split at hs <;> first|(cases hs;done)|(split at hs <;> first|(cases hs;done)|(rename_i hk;subst hk;cases hs;exact ⟨by simp [binOp,Op.intArith,Op.intCmp,gd,pure],rfl,rfl,rfl,_,_,rfl⟩))

theorem zqj {d:TypeDesc} (hd:P.underlying t=some d) {x' y':ai} {b:Bool} (hx:VR ρ x x') (hy:VR ρ y y') (he:Cn d x y=some b) (w:World) :
 (Op.equal t x' y').run P w=.ok b w/\∀ (op:BinOp),op=.eql\/op=.neq->binOp op t x' y'=(if op=.eql then (do pure (.bool (<- Op.equal t x' y'))) else (do pure (.bool (!(<- Op.equal t x' y'))))):=by
 have key:(∀ d0:Nat,(Op.equalIn (d0+1) t x' y').run P w=.ok b w)/\∀ (op:BinOp),op=.eql\/op=.neq->binOp op t x' y'=(if op=.eql then (do pure (.bool (<- Op.equal t x' y'))) else (do pure (.bool (!(<- Op.equal t x' y'))))):=by
  unfold Cn at he
  split at he <;> first
   |(cases he;done)
   |(cases hx <;> cases hy <;> simp at he <;> subst he <;> exact ⟨λd0=>by simp [Op.equalIn,run_underlying hd],by rintro op (rfl|rfl) <;> rfl⟩)
 exact ⟨key.1 9999,key.2⟩

theorem NW (op:BinOp) (t:TypeId) (x y:Operand) (a b:ai) (ha:a≠.nilIface) (oh:∀ c d,a=.agg c->b=.agg d->P.eqGuardType P.depth t=false) (w:World):(eqGuard op t x y a b).run P w=.ok () w:=by
 unfold eqGuard
 cases op <;> simp only [Bool.not_true,Bool.not_false,if_true,if_false,gH] <;> try rfl
 all_goals
  cases a <;> first|exact (ha rfl).elim|skip
 all_goals
  cases b <;> first|rfl|skip
 all_goals
  simp [oh _ _ rfl rfl]

theorem Gw (hT:T.Fits P) {cs:Array ai} {o:Nat} (hs:An T t cs.toList o=some v) (w:World):(part t cs o).run P w=.ok v w:=by
 simp only [An,dw,cy,cn] at hs
 obtain ⟨g,⟨d,hd,hg⟩,hs⟩:=hs
 have ht:=hT.desc _ _ hd
 have oh:(isAgg t).run P w=.ok g w:=by
  unfold isAgg
  rw [Sem.run_bind,run_underlying ht w]
  cases d <;> simp_all
 cases g with
 |true =>
  simp only [if_true,cy,cn] at hs
  obtain ⟨n,hn,l,hl,rfl⟩:=hs
  have hx:cs.extract o (o+n)=l.toArray:=by
   unfold cut at hl
   split at hl
   .cases hl
    apply Array.ext'
    simp [List.take_drop]
   .cases hl
  simp [part,oh,tC hT hn,hx]
 |false =>
  simp only [gH,if_false] at hs
  have xD:cs[o]? = some v:=by simpa using hs
  simp [part,oh,xD]
theorem zf0 (hT:T.Fits P) {E:TypeId->ai->ai->Option Bool} {d:Nat} (w:World) (hE:∀ t x y b,E t x y=some b->(Op.equalIn d t x y).run P w=.ok b w) (xs ys:Array ai) :
 ∀ (fs:List Field) (ps:List (TypeId × Nat)) (b:Bool),Gl fs=some ps->zV T E xs.toList ys.toList ps=some b->(Op.eqFields d xs ys fs).run P w=.ok b w
 | [],ps,b,hp,he=>by
  cases hp
  cases he
  simp [Op.eqFields]
 |f::fs,ps,b,hp,he=>by
  simp only [Gl] at hp
  split at hp
  .cases hp
  .rename_i hn
   simp only [cn] at hp
   obtain ⟨r,hr,rfl⟩:=hp
   simp only [zV,cy] at he
   obtain ⟨a,ha,c,hc,q,hq,he⟩:=he
   have h1:=Gw hT ha w
   have h2:=Gw hT hc w
   have h3:=hE _ _ _ _ hq
   simp only [Op.eqFields]
   rw [aB (by simpa using hn)]
   simp only [Sem.run_bind,h1,h2,h3,Result.andThen_ok]
   cases q with
   |false =>
    simp only [gH,if_false,dR] at he
    subst he
    simp
   |true =>
    simp only [if_true] at he
    simpa using zf0 hT w hE xs ys fs r b hr he
theorem zgG (hT:T.Fits P) {E:TypeId->ai->ai->Option Bool} {d:Nat} (w:World) (hE:∀ t x y b,E t x y=some b->(Op.equalIn d t x y).run P w=.ok b w) (xs ys:Array ai) (e:TypeId) (k:Nat) :
 ∀ (n i:Nat) (b:Bool),zV T E xs.toList ys.toList (Gu e k n i)=some b->(Op.eqItems d e k xs ys (List.range' i n)).run P w=.ok b w
 |0,i,b,he=>by
  cases he
  simp [Op.eqItems]
 |n+1,i,b,he=>by
  simp only [Gu,zV,cy] at he
  obtain ⟨a,ha,c,hc,q,hq,he⟩:=he
  have h1:=Gw hT ha w
  have h2:=Gw hT hc w
  have h3:=hE _ _ _ _ hq
  simp only [List.range'_succ,Op.eqItems,Sem.run_bind,h1,h2,h3,Result.andThen_ok]
  cases q with
  |false =>
   simp only [gH,if_false,dR] at he
   subst he
   simp
  |true =>
   simp only [if_true] at he
   simpa using zgG hT w hE xs ys e k n (i+1) b he
theorem K9 (hT:T.Fits P) (w:World):∀ (d D:Nat) (t:TypeId) (x y:ai) (b:Bool),dy T d t x y=some b->(Op.equalIn (D+d) t x y).run P w=.ok b w
 |0,_,_,_,_,_,he=>by simp [dy] at he
 |d+1,D,t,x,y,b,he=>by
  unfold dy at he
  split at he
  .rename_i a c hd
   cases he
   exact run_equalIn_bool w (D+d) t a c (hT.desc _ _ hd)
  .rename_i q k a k' c hd
   split at he
   .rename_i hk
    subst hk
    cases he
    exact run_equalIn_int w (D+d) t k q a c (hT.desc _ _ hd)
   .cases he
  .rename_i a c hd
   cases he
   rw [show D+(d+1)=(D+d)+1 from rfl,run_equalIn_string w (D+d) t a c (hT.desc _ _ hd),ByteArray.toList_eq,ByteArray.toList_eq]
  .rename_i fs xs ys hd
   split at he
   .rename_i hc
    simp only [cy] at he
    obtain ⟨ps,hp,he⟩:=he
    have hu:=hT.desc _ _ hd
    have hf:P.fieldsOf t=fs:=by simp [Program.fieldsOf,hu]
    rw [show D+(d+1)=(D+d)+1 from rfl,run_equalIn_struct w (D+d) t xs ys (by rw [hf];exact hu) (hT.cmp t hc).1,hf]
    exact zf0 hT w (λt x y b hb=>K9 hT w d D t x y b hb) xs ys fs.toList ps b hp he
   .cases he
  .rename_i n e xs ys hd
   simp only [cy] at he
   obtain ⟨k,hk,he⟩:=he
   have hu:=hT.desc _ _ hd
   simp only [dF,cn] at hk
   obtain ⟨⟨n',b',z⟩,hi,rfl⟩:=hk
   obtain ⟨i,zv,ie,dV,_⟩:=hT.info _ _ _ _ hi
   have lT:P.cellsOf e=n':=by simp [Program.cellsOf,ie,dV]
   rw [show D+(d+1)=(D+d)+1 from rfl,run_equalIn_array w (D+d) xs ys hu ie,lT]
   have:=zgG hT w (λt x y b hb=>K9 hT w d D t x y b hb) xs ys e n' n 0 b he
   rw [List.range_eq_range']
   exact this
  .cases he

theorem zs2 (hT:T.Fits P) {op:BinOp} {t:TypeId} {x' y':ai} (hx:VR ρ x x') (hy:VR ρ y y') (hs:cE P T op t x y=some v) (ox oy:Operand) (w:World) :
 ∃ vc,(do eqGuard op t ox oy x' y';binOp op t x' y':Sem ai).run P w=.ok vc w/\VR ρ v vc:=by
 unfold cE at hs
 split at hs
 .rename_i v' hf
  cases hs
  obtain ⟨h1,h2,h3,h4,k,a,rfl⟩:=zl6 (P:=P) (t:=t) hf
  have e1:=hx.bG h2
  have e2:=hy.bG h3
  subst e1 e2
  refine ⟨v,?_,.dj ρ h4⟩
  rw [Sem.run_bind,NW op t ox oy (.int k a) _ (by simp) (by intro c d e;cases e) w]
  exact K4 P _ _ h1 w
 .split at hs
  .rename_i b hb
   simp only [cy] at hb
   obtain ⟨d,hd,he⟩:=hb
   have ht:=hT.desc _ _ hd
   obtain ⟨h1,h2⟩:=zqj ht hx hy he w
   have To:x'≠.nilIface/\(∀ c,x'≠.agg c):=by
    unfold Cn at he
    split at he <;> first|(cases he;done)|(cases hx <;> exact ⟨by simp,by simp⟩)
   have hg:=NW (P:=P) op t ox oy x' y' To.1 (by intro c d e;exact (To.2 c e).elim) w
   split at hs
   .cases hs
    refine ⟨.bool b,?_,.bool _⟩
    simp only [Sem.run_bind,hg,Result.andThen_ok,h2 .eql (.inl rfl),if_true,h1,Sem.run_pure]
   .cases hs
    refine ⟨.bool !b,?_,.bool _⟩
    simp only [Sem.run_bind,hg,Result.andThen_ok,h2 .neq (.inr rfl),reduceCtorEq,if_false,h1,Sem.run_pure]
   .cases hs
  .split at hs
   .rename_i hp
    simp only [dW] at hp
    have e1:=hx.bG hp.1
    have e2:=hy.bG hp.2
    subst e1 e2
    have fin:∀ (hs:((gd P (binOp op t x' y')).bind λv=>if plain v then some v else none)=some v) (hg:(eqGuard op t ox oy x' y').run P w=.ok () w),
     ∃ vc,(do eqGuard op t ox oy x' y';binOp op t x' y':Sem ai).run P w=.ok vc w/\VR ρ v vc:=by
     intro hs hg
     simp only [cy] at hs
     obtain ⟨v1,hr,hs⟩:=hs
     split at hs
     .rename_i hpv
      cases hs
      refine ⟨v,?_,.dj ρ hpv⟩
      simp only [Sem.run_bind,hg,Result.andThen_ok]
      exact K4 P _ _ hr w
     .cases hs
    split at hs
    .cases hs
    .rename_i c d
     split at hs
     .rename_i td
      have hg:=λxs ys=>NW (P:=P) op t ox oy (.agg xs) (.agg ys) (by simp) (by intro _ _ _ _;exact (hT.cmp t td).2) w
      split at hs
      .simp only [cn] at hs
       obtain ⟨b,hb,rfl⟩:=hs
       refine ⟨.bool b,?_,.bool _⟩
       simp only [Sem.run_bind,hg,Result.andThen_ok]
       rw [run_eql_struct,K9 hT w 20 9980 t _ _ b hb]
       rfl
      .simp only [cn] at hs
       obtain ⟨b,hb,rfl⟩:=hs
       refine ⟨.bool !b,?_,.bool _⟩
       simp only [Sem.run_bind,hg,Result.andThen_ok]
       rw [run_neq_struct,K9 hT w 20 9980 t _ _ b hb]
       rfl
      .cases hs
     .cases hs
    .rename_i h1 h2
     refine fin hs (NW op t ox oy _ _ ?_ ?_ w)
     .intro e;exact h1 e
     .intro c d e1 e2;exact (h2 c d e1 e2).elim
   .cases hs

theorem ztB (hT:T.Fits P) (hs:bM ρ h w) {ty:TypeId} (cN:VR ρ x y) (hl:bW T t x h=some v) (ts:List TypeId) :
 ∃ vc,(Builtin.len_ (t::ts).toArray ty #[y]).run P w=.ok vc w/\VR ρ v vc:=by
 unfold bW at hl
 split at hl
 .rename_i s hd
  cases cN
  cases hl
  exact ⟨_,by simp [Builtin.len_,run_underlying (hT.desc _ _ hd),goInt],.int _ _⟩
 .rename_i e a n c hd
  cases hl
  have key:∃ a' c',y=.slice a' n c':=by cases cN <;> exact ⟨_,_,rfl⟩
  obtain ⟨a',c',rfl⟩:=key
  exact ⟨_,by simp [Builtin.len_,run_underlying (hT.desc _ _ hd),goInt],.int _ _⟩
 .rename_i a b hd
  cases cN
  cases hl
  exact ⟨_,by simp [Builtin.len_,run_underlying (hT.desc _ _ hd),goInt],.int _ _⟩
 .rename_i a b A hd
  split at hl
  .rename_i es clock hg
   cases hl
   cases cN with
   |map hA =>
    rename_i L
    have hb:=hs.lx A L hA
    rw [hg] at hb
    obtain ⟨ces,hc,he⟩:=hb
    refine ⟨.int .i64 (ces.size:Nat),by simp [Builtin.len_,run_underlying (hT.desc _ _ hd),goInt,getObj,Sem.run,hc],?_⟩
    have e1:(es.length:Int)=(ces.size:Int):=by have:=he.1;simp at this;omega
    rw [e1]
    exact .int _ _
  .cases hl
 .cases hl
end
end Go.Am
namespace Go.Am
open Go.RowKit
variable {k k' v x y:ai} {kt t:TypeId}
section
variable {P:Program} {T:bN} {ρ:ct} {h h':Heap} {w:World}

theorem zid {Z:Type} (P:Program) (w:World) (l:List Z) (g:Z->PUnit->Sem (ForInStep PUnit)) (hf:∀ x∈l,(g x PUnit.unit).run P w=.ok (.yield PUnit.unit) w) :
 (forIn l PUnit.unit g:Sem PUnit).run P w=.ok PUnit.unit w:=by
 induction l with
 |nil=>simp
 |cons x l ih =>
  have h1:=hf x (by simp)
  have h2:=ih (λy hy=>hf y (by simp [hy]))
  simp only [List.forIn_cons,Sem.run_bind,h1,Result.andThen_ok,h2]

theorem VB {E:TypeId->ai->ai->Option Bool} {xs:List ai}:∀ {ps:List (TypeId × Nat)},zV T E xs xs ps=some true->∀ p∈ps,∃ a,An T p.1 xs p.2=some a/\E p.1 a a=some true
 | [],_,p,hp=>by cases hp
 |(t,o)::r,he,p,hp=>by
  simp only [zV,cy] at he
  obtain ⟨a,ha,c,hc,q,hq,he⟩:=he
  rw [ha] at hc
  cases hc
  cases q with
  |false=>simp at he
  |true =>
   simp only [if_true] at he
   rcases db.1 hp with rfl|hp
   .exact ⟨a,ha,hq⟩
   .exact VB he p hp

theorem zf5:∀ {fs:List Field} {ps:List (TypeId × Nat)},Gl fs=some ps->∀ f∈fs,(f.type,f.offset)∈ps
 | [],_,_,f,hf=>by cases hf
 |g::fs,ps,hp,f,hf=>by
  simp only [Gl] at hp
  split at hp
  .cases hp
  .simp only [cn] at hp
   obtain ⟨r,hr,rfl⟩:=hp
   rcases db.1 hf with rfl|hf
   .simp
   .exact rN _ (zf5 hr f hf)

theorem zgS {e:TypeId} {k:Nat}:∀ (n i j:Nat),i<=j->j < i+n->(e,j*k)∈Gu e k n i
 |0,i,j,h1,h2=>by omega
 |n+1,i,j,h1,h2=>by
  simp only [Gu]
  by_cases e:i=j
  .subst e;simp
  .exact rN _ (zgS n (i+1) j (by omega) (by omega))

theorem Vz (hT:T.Fits P) (w:World) (em:Bool):∀ (d D:Nat) (t:TypeId) (x y:ai),dy T d t x y=some true->y=x->(Instr.checkKey em (D+d) t x).run P w=.ok () w
 |0,_,_,_,_,he,_=>by simp [dy] at he
 |d+1,D,t,x,y,he,zo=>by
  unfold dy at he
  rw [show D+(d+1)=(D+d)+1 from rfl]
  split at he
  .rename_i a c hd
   simp [Instr.checkKey,run_underlying (hT.desc _ _ hd)]
  .rename_i q k a k' c hd
   simp [Instr.checkKey,run_underlying (hT.desc _ _ hd)]
  .rename_i a c hd
   simp [Instr.checkKey,run_underlying (hT.desc _ _ hd)]
  .rename_i fs xs ys hd
   cases zo
   split at he
   .simp only [cy] at he
    obtain ⟨ps,hp,he⟩:=he
    have aE:=VB he
    simp only [Instr.checkKey,Sem.run_bind,run_underlying (hT.desc _ _ hd),Result.andThen_ok]
    rw [<- Array.forIn_toList]
    rw [zid P w fs.toList]
    .simp
    .intro f hf
     obtain ⟨a,ha,hq⟩:=aE _ (zf5 hp f hf)
     have h1:=Vz hT w em d D f.type a a hq rfl
     split
     .simp only [Sem.run_bind,Gw hT ha w,Result.andThen_ok,h1,Sem.run_pure]
     .simp
   .cases he
  .rename_i n e xs ys hd
   cases zo
   simp only [cy] at he
   obtain ⟨k,hk,he⟩:=he
   have aE:=VB he
   simp only [Instr.checkKey,Sem.run_bind,run_underlying (hT.desc _ _ hd),Result.andThen_ok]
   simp only [Std.Legacy.Range.forIn_eq_forIn_range',Std.Legacy.Range.size,Nat.sub_zero,Cf,Nat.div_one]
   rw [zid P w]
   .simp
   .intro i hi
    have lZ:i < n:=by simpa using hi
    obtain ⟨a,ha,hq⟩:=aE _ (zgS (e:=e) (k:=k) n 0 i (by omega) (by omega))
    have h1:=Vz hT w em d D e a a hq rfl
    simp only [Sem.run_bind,tC hT hk,Gw hT ha w,Result.andThen_ok,h1,Sem.run_pure]
  .cases he

theorem K5 (hT:T.Fits P) (w:World) (em:Bool) (d D:Nat) (t:TypeId) (x:ai) (he:dy T d t x x=some true):(Instr.checkKey em (D+d) t x).run P w=.ok () w:=Vz hT w em d D t x x he rfl

theorem Gm (hk:rJ T kt k=true):plain k=true/\dy T 20 kt k k=some true:=by
 unfold rJ at hk
 split at hk
 .rename_i hp
  refine ⟨hp,?_⟩
  split at hk
  .rename_i b hb;rw [hb,hk]
  .cases hk
 .cases hk

def Xl (ρ:ct):Option (Nat × ai)->Option (Nat × ai)->Prop
 |none,none=>True
 |some (i,v),some (j,u)=>i=j/\VR ρ v u
 |_,_=>False

theorem lL.of_cons {x:MapEntry} {l m:List MapEntry} (hl:lL ρ (x::l) m):∃ y m',m=y::m'/\VR ρ x.key y.key/\VR ρ x.val y.val/\x.born=y.born/\plain x.key=true/\lL ρ l m':=by
 cases m with
 |nil=>have:=hl.1;simp at this
 |cons y m =>
  obtain ⟨h1,h2,h3,h4⟩:=hl.2 0 x y rfl rfl
  exact ⟨y,m,rfl,h1,h2,h3,h4,by have:=hl.1;simpa using this,λi a b ha hb=>hl.2 (i+1) a b (by simpa using ha) (by simpa using hb)⟩
theorem lL.of_nil {m:List MapEntry} (hl:lL ρ [] m):m=[]:=by
 have:=hl.1
 simp at this
 exact LA this.symm

theorem zub (hT:T.Fits P) {d:TypeDesc} (hd:P.underlying kt=some d) {b c:Bool} (he:dy T 20 kt x y=some b) (hs:Instr.sameNow d x y=some c):b=c:=by
 unfold dy at he
 split at he
 .rename_i a c' oZ
  have:=hT.desc _ _ oZ
  rw [hd] at this
  cases this
  cases he
  simpa [Instr.sameNow] using hs
 .rename_i q k a k' c' oZ
  have:=hT.desc _ _ oZ
  rw [hd] at this
  cases this
  split at he
  .rename_i hk
   subst hk
   cases he
   simpa [Instr.sameNow] using hs
  .cases he
 .rename_i a c' oZ
  have:=hT.desc _ _ oZ
  rw [hd] at this
  cases this
  cases he
  simp only [Instr.sameNow,dR] at hs
  rw [<- hs,beq_toListBytes,ByteArray.toList_eq,ByteArray.toList_eq]
 .rename_i fs xs ys oZ
  have:=hT.desc _ _ oZ
  rw [hd] at this
  cases this
  simp [Instr.sameNow] at hs
 .rename_i n e xs ys oZ
  have:=hT.desc _ _ oZ
  rw [hd] at this
  cases this
  simp [Instr.sameNow] at hs
 .cases he

theorem zlk (hT:T.Fits P) {kt:TypeId} {d:TypeDesc} (hd:P.underlying kt=some d) {k:ai}:∀ (es ces:List MapEntry) (i:Nat) (r r':Option (Nat × ai)),lL ρ es ces->lH T kt k es i=some r->Instr.findNow d k ces i=some r'->Xl ρ r r'
 | [],ces,i,r,r',he,hf,hn=>by
  rw [he.of_nil] at hn
  simp only [lH,Instr.findNow,dR] at hf hn
  subst hf hn
  trivial
 |e::es,ces,i,r,r',he,hf,hn=>by
  obtain ⟨y,m,rfl,hk,hv,_,hp,SB⟩:=he.of_cons
  have je:=hk.bG hp
  simp only [lH,cy] at hf
  obtain ⟨b,hb,hf⟩:=hf
  simp only [Instr.findNow] at hn
  rw [je] at hn
  cases oF:Instr.sameNow d k e.key with
  |none=>rw [oF] at hn;cases hn
  |some c =>
   have:=zub hT hd hb oF
   subst this
   rw [oF] at hn
   cases b with
   |true =>
    simp only [if_true,dR] at hf hn
    subst hf hn
    exact ⟨rfl,hv⟩
   |false =>
    simp only [gH,if_false] at hf hn
    exact zlk hT hd es m (i+1) r r' SB hf hn

theorem zgK (hT:T.Fits P) (w:World) {kt:TypeId} {k:ai}:∀ (es ces:List MapEntry) (i:Nat) (r:Option (Nat × ai)),lL ρ es ces->lH T kt k es i=some r->∃ r',(Instr.findAsking kt k ces i).run P w=.ok r' w/\Xl ρ r r'
 | [],ces,i,r,he,hf=>by
  rw [he.of_nil]
  simp only [lH,dR] at hf
  subst hf
  exact ⟨none,by simp [Instr.findAsking],trivial⟩
 |e::es,ces,i,r,he,hf=>by
  obtain ⟨y,m,rfl,hk,hv,_,hp,SB⟩:=he.of_cons
  have je:=hk.bG hp
  simp only [lH,cy] at hf
  obtain ⟨b,hb,hf⟩:=hf
  have hq:(Op.equal kt k y.key).run P w=.ok b w:=by rw [je];exact K9 hT w 20 9980 kt _ _ b hb
  cases b with
  |true =>
   simp only [if_true,dR] at hf
   subst hf
   exact ⟨some (i,y.val),by simp [Instr.findAsking,hq],rfl,hv⟩
  |false =>
   simp only [gH,if_false] at hf
   obtain ⟨r',h1,h2⟩:=zgK hT w es m (i+1) r SB hf
   exact ⟨r',by simp [Instr.findAsking,hq,h1],h2⟩

theorem zqr (hT:T.Fits P) (hk:rJ T kt k=true):∃ d,P.underlying kt=some d:=by
 obtain ⟨_,h1⟩:=Gm hk
 unfold dy at h1
 split at h1
 all_goals first|exact ⟨_,hT.desc _ _ ‹_›⟩|cases h1

theorem Oa (hT:T.Fits P) (w:World) (hk:rJ T kt k=true) {es ces:List MapEntry} {r:Option (Nat × ai)} (he:lL ρ es ces) (hf:lH T kt k es 0=some r) :
 ∃ r',(Instr.findKey kt k ces).run P w=.ok r' w/\Xl ρ r r':=by
 obtain ⟨d,hd⟩:=zqr hT hk
 cases hn:Instr.findNow d k ces 0 with
 |some r'=>exact ⟨r',by simp [Instr.findKey,run_underlying hd,hn],zlk hT hd es ces 0 r r' he hf hn⟩
 |none =>
  obtain ⟨r',h1,h2⟩:=zgK hT w es ces 0 r he hf
  exact ⟨r',by simp [Instr.findKey,run_underlying hd,hn,h1],h2⟩

theorem Oj (hT:T.Fits P) (hz:T.zero t=some v) (w:World):(zeroValue t).run P w=.ok v w/\VR ρ v v:=by
 obtain ⟨⟨i,hi,hiz⟩,hp⟩:=hT.zero t v hz
 exact ⟨by simp [zeroValue,typeInfo,hi,hiz],.dj ρ hp⟩

theorem zqA (hs:bM ρ h w) (cN:VR ρ x y) {es:List MapEntry} (hm:Fq x h=some es) :
 ∃ ces:Array MapEntry,lL ρ es ces.toList/\((y=.map none/\ces=#[])\/∃ A L clock,x=.map (some A)/\ρ A=some L/\y=.map (some L.b)/\h.get A=some (.map es clock)/\w.heap[L.b]? = some (.map ces clock)):=by
 unfold Fq at hm
 split at hm
 .cases hm
  cases cN
  exact ⟨#[],⟨rfl,by intro i x y hx;simp at hx⟩,.inl ⟨rfl,rfl⟩⟩
 .split at hm
  .rename_i A _ MQ clock hg
   cases hm
   cases cN with
   |map hA =>
    rename_i L
    have hb:=hs.lx A L hA
    rw [hg] at hb
    obtain ⟨ces,hc,he⟩:=hb
    exact ⟨ces,he,.inr ⟨A,L,clock,rfl,hA,rfl,hg,hc⟩⟩
  .cases hm
 .cases hm

theorem zmx (hT:T.Fits P) (hs:bM ρ h w) {ok:Bool} (cN:VR ρ x y) (hk:VR ρ k k') (hl:uq T t x k ok h=some v) :
 ∃ u,(Instr.lookup t y k' ok).run P w=.ok u w/\VR ρ v u:=by
 unfold uq at hl
 split at hl
 .rename_i kt et hd
  split at hl
  .rename_i kn
   simp only [cy,cn,Prod.exists] at hl
   obtain ⟨es,II,r,hr,v',b,tZ,hv⟩:=hl
   have hu:=hT.desc _ _ hd
   obtain ⟨hp,iE⟩:=Gm kn
   have nz:k'=k:=hk.bG hp
   subst nz
   obtain ⟨ces,he,hy⟩:=zqA hs cN II
   obtain ⟨r',hf,dI⟩:=Oa hT w kn he hr
   have nx:∀ em,(Instr.checkKey em 10000 kt k').run P w=.ok () w:=λem=>K5 hT w em 20 9980 kt k' iE
   have Bi:∀ u',VR ρ v' u'->VR ρ v (if ok then .tuple #[u',.bool b] else u'):=by
    intro u' o9
    rw [<- hv]
    cases ok
    .exact o9
    .simp only [if_true]
     exact (cz.cons o9 (.cons (.bool b) (.nil ρ))).i0
   cases r with
   |none =>
    cases r' with
    |some q=>exact dI.elim
    |none =>
     simp only [cn,cR] at tZ
     obtain ⟨z,hz,rfl,rfl⟩:=tZ
     obtain ⟨h1,h2⟩:=Oj (ρ:=ρ) hT hz w
     refine ⟨_,?_,Bi z h2⟩
     rcases hy with ⟨rfl,rfl⟩|⟨A,L,clock,_,_,rfl,_,hc⟩
     .simp only [Instr.lookup,Sem.run_bind,run_underlying hu,Result.andThen_ok,Sem.run_pure,nx,hf,h1]
     .have hg:(getObj L.b).run P w=.ok (.map ces clock) w:=by simp [getObj,Sem.run,hc]
      simp only [Instr.lookup,Sem.run_bind,run_underlying hu,Result.andThen_ok,Sem.run_pure,hg,nx,hf,h1]
   |some p =>
    cases r' with
    |none=>exact dI.elim
    |some q =>
     obtain ⟨i,v1⟩:=p
     obtain ⟨j,u1⟩:=q
     simp only [dR,cR] at tZ
     obtain ⟨rfl,rfl⟩:=tZ
     refine ⟨_,?_,Bi u1 dI.2⟩
     rcases hy with ⟨rfl,rfl⟩|⟨A,L,clock,_,_,rfl,_,hc⟩
     .simp only [Instr.lookup,Sem.run_bind,run_underlying hu,Result.andThen_ok,Sem.run_pure,nx,hf]
     .have hg:(getObj L.b).run P w=.ok (.map ces clock) w:=by simp [getObj,Sem.run,hc]
      simp only [Instr.lookup,Sem.run_bind,run_underlying hu,Result.andThen_ok,Sem.run_pure,hg,nx,hf]
  .cases hl
 .cases hl

theorem zsp:∀ {x y:ai},Ap x y=true->x=y:=by
 intro x y hh
 unfold Ap at hh
 split at hh
 .simpa using hh
 .simp only [dW,ix,beq_iff_eq] at hh
  rw [hh.1,hh.2]
 .rename_i a b
  obtain ⟨⟨a⟩⟩:=a
  obtain ⟨⟨b⟩⟩:=b
  simpa using hh
 .cases hh
theorem zlz:∀ {l m:List ai},GL l m=true->l=m
 | [],[],_=>rfl
 |x::l,y::m,hh=>by
  simp only [GL,dW] at hh
  rw [zsp hh.1,zlz hh.2]
 | [],_::_,hh=>by cases hh
 |_::_,[],hh=>by cases hh
theorem zly (hh:Ap x y=true) (n:Nat):Instr.sameBits n x y=true:=by
 have:=zsp hh
 subst this
 unfold Ap at hh
 split at hh
 .simp [Instr.sameBits]
 .simp [Instr.sameBits]
 .simp [Instr.sameBits,beq_toListBytes]
 .cases hh
theorem zie:∀ {l m:List ai},GL l m=true->∀ n,(l.zip m).all (λ(x,y)=>Instr.sameBits n x y)=true
 | [],[],_,_=>rfl
 |x::l,y::m,hh,n=>by
  simp only [GL,dW] at hh
  simp only [List.zip_cons_cons,iy,dW]
  exact ⟨zly hh.1 n,zie hh.2 n⟩
 | [],_::_,hh,_=>by cases hh
 |_::_,[],hh,_=>by cases hh
theorem zif (hh:B3 x y=true):Instr.sameBits 10000 x y=true:=by
 unfold B3 at hh
 split at hh
 .rename_i a b
  have h1:=zie hh 9999
  have h2:=zlz hh
  have h3:a.size=b.size:=by rw [<- uE,h2,uE]
  rw [Instr.sameBits,h3]
  simpa using h1
 .exact zly hh _

theorem zhh (hT:T.Fits P) (hs:bM ρ h w) {v':ai} (cN:VR ρ x y) (hk:VR ρ k k') (hv:VR ρ v v') (hl:nN T t x k v h=some h') :
 ∃ w',(Instr.mapUpdate t y k' v').run P w=.ok () w'/\Fr ρ ρ h h' w w'/\bM ρ h' w':=by
 unfold nN at hl
 split at hl
 .rename_i kt et A hd
  split at hl
  .rename_i es clock hg
   split at hl
   .rename_i kn
    simp only [cy] at hl
    obtain ⟨r,hr,hl⟩:=hl
    have hu:=hT.desc _ _ hd
    obtain ⟨hp,iE⟩:=Gm kn
    have nz:k'=k:=hk.bG hp
    subst nz
    cases cN with
    |map hA =>
     rename_i L
     have hb:=hs.lx A L hA
     rw [hg] at hb
     obtain ⟨ces,hc,he⟩:=hb
     obtain ⟨r',hf,dI⟩:=Oa hT w kn he hr
     have nx:∀ em,(Instr.checkKey em 10000 kt k').run P w=.ok () w:=λem=>K5 hT w em 20 9980 kt k' iE
     have jW:∀ o:Obj,(setObj L.b o).run P w=.ok () (w.putObj L.b o):=by
      intro o
      simp [setObj,Sem.run,hc,World.putObj]
     have bc:L.b < w.heap.size:=(my.1 hc).1
     have vW:∀ (b':aZ) (o:Obj),pj ρ (w.putObj L.b o) L (some b')->Fr ρ ρ h (h.set A b') w (w.putObj L.b o)/\bM ρ (h.set A b') (w.putObj L.b o):=by
      intro b' o lB
      refine Lj hs hA hg (by simp) (by simp) rfl rfl rfl (by simp [World.putObj]) (λq hq=>?_) lB
      simp only [World.putObj]
      rw [GH (Ne.symm hq)]
     have lS:∀ o:Obj,(w.putObj L.b o).heap[L.b]? = some o:=by
      intro o
      simp [World.putObj,bc]
     cases r with
     |none =>
      cases r' with
      |some q=>exact dI.elim
      |none =>
       simp only [dR] at hl
       subst hl
       refine ⟨w.putObj L.b (.map (ces.push { key:=k',val:=v',born:=clock }) (clock+1)),?_,vW _ _ ⟨_,lS _,?_⟩⟩
       .simp [Instr.mapUpdate,run_underlying hu,getObj,Sem.run,hc,nx,hf,jW]
       .refine ⟨by simp [he.1],λi a b ha hb=>?_⟩
        have hlen:=he.1
        rw [Array.toList_push] at hb
        rcases G2 i es.length with h1|h1|h1
        .rw [jC h1] at ha
         rw [jC (by omega)] at hb
         exact he.2 i a b ha hb
        .rw [lj (by omega)] at ha
         rw [lj (by omega)] at hb
         have e1:i - es.length=0:=by omega
         have e2:i - ces.toList.length=0:=by omega
         rw [e1] at ha
         rw [e2] at hb
         simp at ha hb
         subst ha hb
         exact ⟨.dj ρ hp,hv,rfl,hp⟩
        .rw [lj (by omega)] at ha
         have:i - es.length=(i - es.length - 1)+1:=by omega
         rw [this] at ha
         simp at ha
     |some q =>
      obtain ⟨i,v1⟩:=q
      cases r' with
      |none=>exact dI.elim
      |some q' =>
       obtain ⟨j,u1⟩:=q'
       obtain ⟨rfl,_⟩:=dI
       simp only [cy] at hl
       obtain ⟨e,IH,hl⟩:=hl
       split at hl
       .rename_i gX
        cases hl
        have fm:i < ces.size:=by
         have h1:=(fR.1 IH).1
         have:=he.1
         simp at this
         omega
        obtain ⟨k1,k2,k3,k4⟩:=he.2 i e ces[i] IH (by simp)
        have S0:ces[i].key=e.key:=k1.bG k4
        have vk:=zif gX
        refine ⟨w.putObj L.b (.map (ces.modify i λe=>{ e with key:=k',val:=v' }) clock),?_,vW _ _ ⟨_,lS _,?_⟩⟩
        .simp [Instr.mapUpdate,run_underlying hu,getObj,Sem.run,hc,nx,hf,jW,Instr.keyThatStays,S0,vk,fm]
        .refine ⟨by simp [he.1],λq a b ha hb=>?_⟩
         rw [Array.toList_modify] at hb
         rw [GU] at ha hb
         by_cases hq:i=q
         .subst hq
          simp only [if_true,Option.map_eq_map,cn] at ha hb
          obtain ⟨a0,sR,rfl⟩:=ha
          obtain ⟨b0,xr,rfl⟩:=hb
          obtain ⟨_,_,h3,_⟩:=he.2 i a0 b0 sR xr
          exact ⟨.dj ρ hp,hv,h3,hp⟩
         .simp only [aA hq] at ha hb
          exact he.2 q a b (by simpa using ha) (by simpa using hb)
       .cases hl
   .cases hl
  .cases hl
 .cases hl

theorem Vq (hs:bM ρ h w) {A:Nat} {L:Loc} {es MQ:List MapEntry} {ces yz:Array MapEntry} {clock clock':Nat} (hA:ρ A=some L) (hg:h.get A=some (.map es clock)) (hc:w.heap[L.b]? = some (.map ces clock))
 (he:lL ρ MQ yz.toList):Fr ρ ρ h (h.set A (.map MQ clock')) w (w.putObj L.b (.map yz clock'))/\bM ρ (h.set A (.map MQ clock')) (w.putObj L.b (.map yz clock')):=by
 have bc:L.b < w.heap.size:=(my.1 hc).1
 refine Lj hs hA hg (by simp) (by simp) rfl rfl rfl (by simp [World.putObj]) (λq hq=>?_) ⟨yz,by simp [World.putObj,bc],he⟩
 simp only [World.putObj]
 rw [GH (Ne.symm hq)]

theorem lL.push {es:List MapEntry} {ces:Array MapEntry} (he:lL ρ es ces.toList) {k v v':ai} {clock:Nat} (hp:plain k=true) (hv:VR ρ v v') :
 lL ρ (es++[{ key:=k,val:=v,born:=clock }]) (ces.push { key:=k,val:=v',born:=clock }).toList:=by
 refine ⟨by simp [he.1],λi a b ha hb=>?_⟩
 have hlen:=he.1
 rw [Array.toList_push] at hb
 rcases G2 i es.length with h1|h1|h1
 .rw [jC h1] at ha
  rw [jC (by omega)] at hb
  exact he.2 i a b ha hb
 .rw [lj (by omega)] at ha
  rw [lj (by omega)] at hb
  have e1:i - es.length=0:=by omega
  have e2:i - ces.toList.length=0:=by omega
  rw [e1] at ha
  rw [e2] at hb
  simp at ha hb
  subst ha hb
  exact ⟨.dj ρ hp,hv,rfl,hp⟩
 .rw [lj (by omega)] at ha
  have:i - es.length=(i - es.length - 1)+1:=by omega
  rw [this] at ha
  simp at ha

theorem lL.modify {es:List MapEntry} {ces:Array MapEntry} (he:lL ρ es ces.toList) (i:Nat) {f g:MapEntry->MapEntry}
 (IL:∀ a b,VR ρ a.key b.key->VR ρ a.val b.val->a.born=b.born->plain a.key=true->VR ρ (f a).key (g b).key/\VR ρ (f a).val (g b).val/\(f a).born=(g b).born/\plain (f a).key=true) :
 lL ρ (es.modify i f) (ces.modify i g).toList:=by
 refine ⟨by simp [he.1],λq a b ha hb=>?_⟩
 rw [Array.toList_modify] at hb
 rw [GU] at ha hb
 by_cases hq:i=q
 .subst hq
  simp only [if_true,Option.map_eq_map,cn] at ha hb
  obtain ⟨a0,sR,rfl⟩:=ha
  obtain ⟨b0,xr,rfl⟩:=hb
  obtain ⟨h1,h2,h3,h4⟩:=he.2 i a0 b0 sR xr
  exact IL a0 b0 h1 h2 h3 h4
 .simp only [aA hq] at ha hb
  exact he.2 q a b (by simpa using ha) (by simpa using hb)

theorem zon (hT:T.Fits P) (hs:bM ρ h w) (cN:VR ρ x y) (hk:VR ρ k k') (hl:Mj T t x k h=some (v,h')) :
 ∃ u w',(Instr.mapEntry t y k').run P w=.ok u w'/\Fr ρ ρ h h' w w'/\bM ρ h' w'/\VR ρ v u:=by
 unfold Mj at hl
 split at hl
 .rename_i kt et A hd
  split at hl
  .rename_i es clock hg
   split at hl
   .rename_i kn
    simp only [cy] at hl
    obtain ⟨r,hr,hl⟩:=hl
    have hu:=hT.desc _ _ hd
    obtain ⟨hp,iE⟩:=Gm kn
    have nz:k'=k:=hk.bG hp
    subst nz
    cases cN with
    |map hA =>
     rename_i L
     have hb:=hs.lx A L hA
     rw [hg] at hb
     obtain ⟨ces,hc,he⟩:=hb
     obtain ⟨r',hf,dI⟩:=Oa hT w kn he hr
     have nx:∀ em,(Instr.checkKey em 10000 kt k').run P w=.ok () w:=λem=>K5 hT w em 20 9980 kt k' iE
     have jW:∀ o:Obj,(setObj L.b o).run P w=.ok () (w.putObj L.b o):=by
      intro o
      simp [setObj,Sem.run,hc,World.putObj]
     cases r with
     |none =>
      cases r' with
      |some q=>exact dI.elim
      |none =>
       simp only [cn,cR] at hl
       obtain ⟨z,hz,rfl,rfl⟩:=hl
       obtain ⟨z1,z2⟩:=Oj (ρ:=ρ) hT hz w
       obtain ⟨f1,f2⟩:=Vq (clock':=clock+1) hs hA hg hc (he.push (clock:=clock) hp z2)
       refine ⟨_,_,?_,f1,f2,(cz.cons z2 (.cons (.int .i64 clock) (.nil ρ))).i0⟩
       simp [Instr.mapEntry,run_underlying hu,getObj,Sem.run,hc,nx,hf,jW,z1,goInt]
     |some q =>
      obtain ⟨i,v1⟩:=q
      cases r' with
      |none=>exact dI.elim
      |some q' =>
       obtain ⟨j,u1⟩:=q'
       obtain ⟨rfl,o9⟩:=dI
       simp only [cy] at hl
       obtain ⟨e,IH,hl⟩:=hl
       split at hl
       .rename_i gX
        cases hl
        have fm:i < ces.size:=by
         have h1:=(fR.1 IH).1
         have:=he.1
         simp at this
         omega
        obtain ⟨k1,k2,k3,k4⟩:=he.2 i e ces[i] IH (by simp)
        have S0:ces[i].key=e.key:=k1.bG k4
        have vk:=zif gX
        obtain ⟨f1,f2⟩:=Vq (clock':=clock) hs hA hg hc (he.modify i (f:=λe=>{ e with key:=k' }) (g:=λe=>{ e with key:=k' }) (λa b h1 h2 h3 h4=>⟨.dj ρ hp,h2,h3,hp⟩))
        refine ⟨_,_,?_,f1,f2,(cz.cons o9 (.cons (.int .i64 e.born) (.nil ρ))).i0⟩
        simp [Instr.mapEntry,run_underlying hu,getObj,Sem.run,hc,nx,hf,jW,Instr.keyThatStays,S0,vk,fm,goInt,k3]
       .cases hl
   .cases hl
  .cases hl
 .cases hl

theorem zi7 {s:Int}:∀ {es ces:List MapEntry} {n i:Nat},(∀ (i:Nat) a b,es[i]? = some a->ces[i]? = some b->a.born=b.born)->es.length=ces.length->O9 s es n=some i->n<=i/\ces.findIdx? (λe=>(e.born:Int) == s)=some (i - n)
 | [],_,_,_,_,_,h=>by cases h
 |a::es,[],_,_,_,hl,_=>by cases hl
 |a::es,b::ces,n,i,hb,hl,h=>by
  have h0:=hb 0 a b rfl rfl
  rw [O9] at h
  rw [List.findIdx?_cons]
  split at h
  .rename_i hc
   cases h
   rw [h0] at hc
   simp [hc]
  .rename_i hc
   rw [h0] at hc
   obtain ⟨h1,h2⟩:=zi7 (es:=es) (ces:=ces) (λi a b ha lB=>hb (i+1) a b (by simpa using ha) (by simpa using lB)) (by simpa using hl) h
   refine ⟨by omega,?_⟩
   have:¬ ((b.born:Int) == s)=true:=by simpa using hc
   rw [aA this,h2]
   simp
   omega

theorem zhu (hs:bM ρ h w) {s s' v':ai} (cN:VR ρ x y) (pK:VR ρ s s') (hv:VR ρ v v') (hl:Ld x s v h=some h') :
 ∃ w',(Instr.entryStore t y s' v').run P w=.ok () w'/\Fr ρ ρ h h' w w'/\bM ρ h' w':=by
 unfold Ld at hl
 split at hl
 .rename_i A kd b
  split at hl
  .rename_i es clock hg
   simp only [cn] at hl
   obtain ⟨i,hi,rfl⟩:=hl
   cases pK
   cases cN with
   |map hA =>
    rename_i L
    have hb:=hs.lx A L hA
    rw [hg] at hb
    obtain ⟨ces,hc,he⟩:=hb
    have jW:∀ o:Obj,(setObj L.b o).run P w=.ok () (w.putObj L.b o):=by
     intro o
     simp [setObj,Sem.run,hc,World.putObj]
    obtain ⟨_,yQ⟩:=zi7 (ces:=ces.toList) (λi a b ha hb=>(he.2 i a b ha hb).2.2.1) he.1 hi
    have Dd:ces.findIdx? (λe=>(e.born:Int) == b)=some i:=by
     cases ces with|mk l=>simpa using yQ
    obtain ⟨f1,f2⟩:=Vq (clock':=clock) hs hA hg hc (he.modify i (f:=λe=>{ e with val:=v }) (g:=λe=>{ e with val:=v' }) (λa b h1 h2 h3 h4=>⟨h1,hv,h3,h4⟩))
    refine ⟨_,?_,f1,f2⟩
    simp [Instr.entryStore,getObj,Sem.run,hc,jW,asInt,asIntOf,Dd]
  .cases hl
 .cases hl

end
end Go.Am
namespace Go.Am
open Go.RowKit
variable {p v x y:ai} {s t:TypeId}
section
variable {P:Program} {T:bN} {ρ:ct} {h h':Heap} {w:World}

theorem lL.eraseIdx {l m:List MapEntry} (hl:lL ρ l m) (i:Nat):lL ρ (l.eraseIdx i) (m.eraseIdx i):=by
 have hlen:=hl.1
 refine ⟨by rw [List.length_eraseIdx,List.length_eraseIdx,hlen],λj x y hx hy=>?_⟩
 rw [List.getElem?_eraseIdx] at hx hy
 split at hx
 .rename_i hj;rw [aB hj] at hy;exact hl.2 j x y hx hy
 .rename_i hj;rw [aA hj] at hy;exact hl.2 (j+1) x y hx hy

theorem zmm (hT:T.Fits P) (hs:bM ρ h w) {ty:TypeId} {ts:List TypeId} {k k':ai} (cN:VR ρ x y) (hk:VR ρ k k') (hl:LS T t x k h=some h') :
 ∃ w',(Builtin.delete_ (t::ts).toArray ty #[y,k']).run P w=.ok (.tuple #[]) w'/\Fr ρ ρ h h' w w'/\bM ρ h' w':=by
 unfold LS at hl
 split at hl
 .rename_i kt et hd
  split at hl
  .rename_i kn
   cases hl
   obtain ⟨hp,iE⟩:=Gm kn
   have nz:k'=k:=hk.bG hp
   subst nz
   cases cN
   refine ⟨w,?_,Fr.refl _ _ _,hs⟩
   have nx:∀ em,(Instr.checkKey em 10000 kt k').run P w=.ok () w:=λem=>K5 hT w em 20 9980 kt k' iE
   simp [Builtin.delete_,run_underlying (hT.desc _ _ hd),nx]
  .cases hl
 .rename_i kt et A hd
  split at hl
  .rename_i es clock hg
   split at hl
   .rename_i kn
    simp only [cy] at hl
    obtain ⟨r,hr,hl⟩:=hl
    have hu:=hT.desc _ _ hd
    obtain ⟨hp,iE⟩:=Gm kn
    have nz:k'=k:=hk.bG hp
    subst nz
    cases cN with
    |map hA =>
     rename_i L
     have hb:=hs.lx A L hA
     rw [hg] at hb
     obtain ⟨ces,hc,he⟩:=hb
     obtain ⟨r',hf,dI⟩:=Oa hT w kn he hr
     have nx:∀ em,(Instr.checkKey em 10000 kt k').run P w=.ok () w:=λem=>K5 hT w em 20 9980 kt k' iE
     have ga:(getObj L.b).run P w=.ok (.map ces clock) w:=by simp [getObj,Sem.run,hc]
     have jW:∀ o:Obj,(setObj L.b o).run P w=.ok () (w.putObj L.b o):=by
      intro o
      simp [setObj,Sem.run,hc,World.putObj]
     have bc:L.b < w.heap.size:=(my.1 hc).1
     have vW:∀ (b':aZ) (o:Obj),pj ρ (w.putObj L.b o) L (some b')->Fr ρ ρ h (h.set A b') w (w.putObj L.b o)/\bM ρ (h.set A b') (w.putObj L.b o):=by
      intro b' o lB
      refine Lj hs hA hg (by simp) (by simp) rfl rfl rfl (by simp [World.putObj]) (λq hq=>?_) lB
      simp only [World.putObj]
      rw [GH (Ne.symm hq)]
     have lS:∀ o:Obj,(w.putObj L.b o).heap[L.b]? = some o:=by
      intro o
      simp [World.putObj,bc]
     cases r with
     |none =>
      cases r' with
      |some q=>exact dI.elim
      |none =>
       cases hl
       refine ⟨w.putObj L.b (.map ces clock),?_,vW _ _ ⟨_,lS _,he⟩⟩
       simp [Builtin.delete_,run_underlying hu,ga,nx,hf,jW]
     |some q =>
      obtain ⟨i,v1⟩:=q
      cases r' with
      |none=>exact dI.elim
      |some q' =>
       obtain ⟨j,u1⟩:=q'
       obtain ⟨rfl,_⟩:=dI
       cases hl
       refine ⟨w.putObj L.b (.map (ces.eraseIdxIfInBounds i) clock),?_,vW _ _ ⟨_,lS _,?_⟩⟩
       .simp [Builtin.delete_,run_underlying hu,ga,nx,hf,jW]
       .have e1:(ces.eraseIdxIfInBounds i).toList=ces.toList.eraseIdx i:=by simp
        rw [e1]
        exact he.eraseIdx i
   .cases hl
  .cases hl
 .cases hl

theorem zoy (hT:T.Fits P) (cN:VR ρ x y) (hi:Xt T t x=some v) (w:World):∃ u,(Instr.makeInterface t y).run P w=.ok u w/\VR ρ v u:=by
 unfold Xt at hi
 split at hi
 .cases hi
 .rename_i d aL hd
  cases hi
  refine ⟨.iface t y,?_,.iface t cN⟩
  have:=hT.desc _ _ hd
  simp only [Instr.makeInterface,Sem.run_bind,run_underlying this,Result.andThen_ok]
  cases d <;> first|rfl|exact (aL _ rfl).elim
 .cases hi

theorem zsG (hT:T.Fits P) (hz:T.zero t=some v) (w:World):(zeroValue t).run P w=.ok v w:=(Oj (ρ:=λ_=>none) hT hz w).1

theorem zl5 (hT:T.Fits P) {xt:TypeId} {ok:Bool} (cN:VR ρ x y) (hi:WZ T x t ok=some v) (w:World):∃ u,(Instr.typeAssert y xt t ok).run P w=.ok u w/\VR ρ v u:=by
 unfold WZ at hi
 split at hi
 .cases hi
 .rename_i d aL hd
  have hu:=hT.desc _ _ hd
  have Tq:∀ ms,d≠.interface ms:=λms e=>aL ms e
  have A4:∀ z,T.zero t=some z->VR ρ (.tuple #[z,.bool false]) (.tuple #[z,.bool false]):=λz hz=>(cz.cons (Oj (ρ:=ρ) hT hz w).2 (.cons (.bool false) (.nil ρ))).i0
  split at hi
  .rename_i t' v'
   cases cN with
   |iface _ cN =>
    rename_i y'
    split at hi
    .rename_i e
     subst e
     cases hi
     refine ⟨if ok then .tuple #[y',.bool true] else y',?_,?_⟩
     .simp only [Instr.typeAssert,Sem.run_bind,run_underlying hu,Result.andThen_ok]
      cases d <;> first|(exact (Tq _ rfl).elim)|simp
     .cases ok
      .exact cN
      .exact (cz.cons cN (.cons (.bool true) (.nil ρ))).i0
    .rename_i e
     split at hi
     .rename_i df
      simp only [cn] at hi
      obtain ⟨z,hz,rfl⟩:=hi
      refine ⟨_,?_,A4 z hz⟩
      simp only [Instr.typeAssert,Sem.run_bind,run_underlying hu,Result.andThen_ok]
      cases d <;> first|(exact (Tq _ rfl).elim)|simp [e,df,zsG hT hz]
     .cases hi
  .cases cN
   split at hi
   .rename_i df
    simp only [cn] at hi
    obtain ⟨z,hz,rfl⟩:=hi
    refine ⟨_,?_,A4 z hz⟩
    simp only [Instr.typeAssert,Sem.run_bind,run_underlying hu,Result.andThen_ok]
    cases d <;> first|(exact (Tq _ rfl).elim)|simp [df,zsG hT hz]
   .cases hi
  .cases hi
 .cases hi

def Pl (ρ:ct):fX->Place->Prop
 | .val v,.val u=>VR ρ v u
 | .var p,.var a=>VR ρ p (.pointer (some a))
 |_,_=>False

theorem zgV (hT:T.Fits P) (hs:bM ρ h w) {a:Addr} (hp:VR ρ p (.pointer (some a))) (hl:hU T t p h=some v):∃ u,(loadVar t a).run P w=.ok u w/\VR ρ v u:=by
 obtain ⟨u,h1,h2⟩:=VD hT hs hp hl
 refine ⟨u,?_,h2⟩
 rw [<- h1]
 simp [Instr.loadAt,Instr.sureAddr]
theorem Ol (hT:T.Fits P) (hs:bM ρ h w) {x:fX} {y:Place} (cN:Pl ρ x y) (hg:x.get T t h=some v):∃ u,(y.get t).run P w=.ok u w/\VR ρ v u:=by
 cases x with
 |val v' =>
  cases y with
  |val u=>cases hg;exact ⟨u,rfl,cN⟩
  |var a=>exact cN.elim
 |var p =>
  cases y with
  |val u=>exact cN.elim
  |var a=>exact zgV hT hs cN hg
theorem zu1 {u:ai} {f:Nat} {q:ai} (hp:VR ρ p u) (hf:mu T s p f=some q):∃ a,u=.pointer (some a)/\(asAddr u).run P w=.ok a w:=by
 unfold mu at hf
 split at hf
 .cases hp with
  |ptr hA=>exact ⟨_,rfl,by simp [asAddr]⟩
 .cases hf
theorem zeO (hT:T.Fits P) {fs:Array Field} {q:ai} {a:Addr} {i:Nat} {f:Field} (hd:T.desc s=some (.struct fs)) (hi:fs[i]? = some f) (hp:VR ρ p (.pointer (some a))) (hf:mu T s p i=some q) :
 ∃ a',(fieldPlace a f).run P w=.ok a' w/\VR ρ q (.pointer (some a')):=by
 unfold mu at hf
 rw [hd] at hf
 split at hf
 .rename_i fs' A o e1
  cases e1
  simp only [cy] at hf
  obtain ⟨fl,IP,n,hn,hf⟩:=hf
  rw [hi] at IP
  cases IP
  split at hf
  .cases hf
  .rename_i h0
   cases hf
   cases hp with
   |ptr hA =>
    rename_i L
    refine ⟨⟨L.b,L.s+(o+f.offset),none⟩,?_,.ptr hA⟩
    simp [fieldPlace,tC hT hn,h0,Addr.add_mid,oU]
 .cases hf

theorem N0 (hT:T.Fits P) (hs:bM ρ h w):∀ (l:List FieldStep) (t:TypeId) (x:fX) (y:Place) (r:TypeId × fX),Pl ρ x y->GP T h l t x=some r->∃ y',(follow l t y).run P w=.ok (r.1,y') w/\Pl ρ r.2 y'
 | [],t,x,y,r,cN,hf=>by cases hf;exact ⟨y,by simp [follow],cN⟩
 |s::l,t,x,y,r,cN,hf=>by
  simp only [GP] at hf
  split at hf
  .rename_i fs hd
   simp only [cy] at hf
   obtain ⟨f,hi,hf⟩:=hf
   have hu:=hT.desc _ _ hd
   split at hf
   .rename_i xw
    simp only [cy] at hf
    obtain ⟨p,hp,q,hq,hf⟩:=hf
    obtain ⟨u,h1,h2⟩:=Ol hT hs cN hp
    obtain ⟨a,rfl,h3⟩:=zu1 (P:=P) (w:=w) h2 hq
    obtain ⟨a',h4,h5⟩:=zeO (P:=P) (w:=w) hT hd hi h2 hq
    obtain ⟨y',h6,h7⟩:=N0 hT hs l _ (.var q) (.var a') r h5 hf
    refine ⟨y',?_,h7⟩
    simp only [follow,Sem.run_bind,run_underlying hu,Result.andThen_ok,hi,xw,if_true,h1,h3,h4,h6]
   .rename_i xw
    split at hf
    .rename_i p
     simp only [cy] at hf
     obtain ⟨q,hq,hf⟩:=hf
     cases y with
     |val u=>exact cN.elim
     |var a =>
      obtain ⟨a',h4,h5⟩:=zeO (P:=P) (w:=w) hT hd hi cN hq
      obtain ⟨y',h6,h7⟩:=N0 hT hs l _ (.var q) (.var a') r h5 hf
      refine ⟨y',?_,h7⟩
      simp only [follow,Sem.run_bind,run_underlying hu,Result.andThen_ok,hi,xw,gH,if_false,h4,h6]
    .rename_i cs
     simp only [cy] at hf
     obtain ⟨v,hv,hf⟩:=hf
     cases y with
     |var a=>exact cN.elim
     |val u =>
      cases cN with
      |agg hc hh =>
       rename_i ds
       obtain ⟨vc,h4,h5⟩:=zjK (ds:=ds) hT (VR.agg hc hh).Ct hv w
       obtain ⟨y',h6,h7⟩:=N0 hT hs l _ (.val v) (.val vc) r h5 hf
       refine ⟨y',?_,h7⟩
       simp only [follow,Sem.run_bind,run_underlying hu,Result.andThen_ok,hi,xw,gH,if_false,h4,h6]
    .cases hf
  .cases hf

theorem zjV (hT:T.Fits P) (hs:bM ρ h w) {xt:TypeId} {x:fX} {y:Place} {ptr:Bool} (cN:Pl ρ x y) (hr:We T xt x ptr h=some v) (wr:Option String):∃ u,(receiverAt xt y ptr wr).run P w=.ok u w/\VR ρ v u:=by
 unfold We at hr
 split at hr
 .rename_i e hd
  obtain ⟨u,h1,h2⟩:=Ol hT hs cN hr
  refine ⟨u,?_,h2⟩
  simp only [receiverAt,Sem.run_bind,run_underlying (hT.desc _ _ hd),Result.andThen_ok,h1]
 .rename_i elem hd
  simp only [cy] at hr
  obtain ⟨p,hp,hr⟩:=hr
  obtain ⟨u,h1,h2⟩:=Ol hT hs cN hp
  have hpu:∃ a,u=.pointer (some a):=by
   unfold hU at hr
   split at hr
   .cases h2 with
    |ptr hA=>exact ⟨_,rfl⟩
   .cases hr
  obtain ⟨a,rfl⟩:=hpu
  obtain ⟨u',h3,h4⟩:=zgV hT hs h2 hr
  refine ⟨u',?_,h4⟩
  simp only [receiverAt,Sem.run_bind,run_underlying (hT.desc _ _ hd),Result.andThen_ok,h1]
  cases wr with
  |none=>simp [asAddr,h3]
  |some nm =>
   have hw:(Builtin.ssaWrapNilChk_ #[xt] xt #[.pointer (some a),strVal "",strVal nm]).run P w=.ok (.pointer (some a)) w:=rfl
   simp [hw,asAddr,h3]
 .rename_i d p aL hd
  split at hr
  .rename_i a
   cases hr
   cases y with
   |val u=>exact cN.elim
   |var a' =>
    refine ⟨.pointer (some a'),?_,cN⟩
    simp only [receiverAt,Sem.run_bind,run_underlying (hT.desc _ _ hd),Result.andThen_ok]
    cases d <;> first|rfl|exact (aL _ rfl).elim
  .cases hr
 .rename_i d aL hd
  obtain ⟨u,h1,h2⟩:=Ol hT hs cN hr
  refine ⟨u,?_,h2⟩
  simp only [receiverAt,Sem.run_bind,run_underlying (hT.desc _ _ hd),Result.andThen_ok]
  cases d <;> first|exact h1|exact (aL _ rfl).elim
 .cases hr

theorem zmB (hT:T.Fits P) (hs:bM ρ h w) {u r:ai} {name:String} {f:FuncId} (hv:VR ρ v u) (hm:O0 T t v name h=some (f,r)) (fuel:Nat):∃ r',(method (fuel+1) t u name).run P w=.ok (f,r') w/\VR ρ r r':=by
 unfold O0 at hm
 simp only [cy,Prod.exists] at hm
 obtain ⟨m,gF,xt,x,hf,hm⟩:=hm
 obtain ⟨i,hi,IM⟩:=hT.wI _ _ _ gF
 obtain ⟨y,h1,h2⟩:=N0 hT hs m.path.toList t (.val v) (.val u) (xt,x) hv hf
 split at hm
 .rename_i f' ptr kT
  simp only [cn,cR] at hm
  obtain ⟨r1,hr,rfl,rfl⟩:=hm
  obtain ⟨r',h3,h4⟩:=zjV hT hs h2 hr (if m.path.isEmpty then some ((name.splitOn ".").getLastD name) else none)
  refine ⟨r',?_,h4⟩
  have hti:(typeInfo t).run P w=.ok i w:=by simp [typeInfo,hi]
  simp only [method,Sem.run_bind,hti,Result.andThen_ok,IM,h1,kT,h3,Sem.run_pure]
 .cases hm

theorem ztf (hT:T.Fits P) {ty:TypeId} (cN:VR ρ x y) (hc:CI T t x=some v) (ts:List TypeId) (w:World):∃ u,(Builtin.cap_ (t::ts).toArray ty #[y]).run P w=.ok u w/\VR ρ v u:=by
 unfold CI at hc
 split at hc
 .rename_i e a n c hd
  split at hc
  .rename_i bc
   cases hc
   have key:∃ a' n',y=.slice a' n' c:=by
    cases cN with
    |dD=>exact ⟨_,_,rfl⟩
    |slice=>exact ⟨_,_,rfl⟩
    |cW h1 h2=>omega
   obtain ⟨a',n',rfl⟩:=key
   exact ⟨_,by simp [Builtin.cap_,run_underlying (hT.desc _ _ hd),goInt],.int _ _⟩
  .cases hc
 .cases hc

theorem zld:∀ (l m:List ai) (bs:List UInt8),cz ρ l m->Mb l=some bs->∃ ns:List Int,m=ns.map (Value.int .u8)/\bs=ns.map λn=>UInt8.ofNat n.toNat
 | [],m,bs,hv,hb=>by
  rw [hv.of_nil]
  cases hb
  exact ⟨[],rfl,rfl⟩
 |x::l,m,bs,hv,hb=>by
  obtain ⟨y,m',rfl,h1,h2⟩:=hv.of_cons
  cases x with
  |int k n =>
   cases k <;> simp only [Mb] at hb <;> try cases hb
   simp only [cn] at hb
   obtain ⟨bs',lB,rfl⟩:=hb
   cases h1
   obtain ⟨ns,rfl,rfl⟩:=zld l m' bs' h2 lB
   exact ⟨n::ns,rfl,rfl⟩
  |_=>simp [Mb] at hb

theorem zkI (hT:T.Fits P) (hs:bM ρ h w) {d:TypeId} (cN:VR ρ x y) (hb:OE T s d x h=some v):∃ u,(convert s d y).run P w=.ok u w/\VR ρ v u:=by
 unfold OE at hb
 split at hb
 .rename_i e a n c wg Sz
  split at hb
  .rename_i hed
   simp only [cy,cn] at hb
   obtain ⟨l,hl,bs,CZ,rfl⟩:=hb
   obtain ⟨a',c',m,rfl,hv,hlen,ey⟩:=Vg (P:=P) hs cN hl
   obtain ⟨ns,rfl,rfl⟩:=zld l m bs hv CZ
   refine ⟨_,?_,.string _⟩
   rw [run_convert_bytes_string w s d e a' n c' (hT.desc _ _ wg) (hT.desc _ _ hed) (hT.desc _ _ Sz)]
   cases a' with
   |none =>
    have hn:n=0:=by cases cN;rfl
    subst hn
    have:ns=[]:=by simpa using hlen
    subst this
    rfl
   |some ad =>
    have h1:=ey w rfl n (aQ _)
    have h2:(loadCells ad n).run P w=.ok (ns.map (Value.int .u8)).toArray w:=by
     have h3:(Builtin.firstCells 1 n (.slice (some ad) n c'))=loadCells ad (n*1):=rfl
     rw [h3,Nat.mul_one] at h1
     rw [h1]
     congr 2
     exact iR (by rw [hlen,Nat.mul_one];exact aQ _)
    rw [run_bytesToString w ad n c' ns h2,foldl_push_bytes]
    simp
  .cases hb
 .cases hb

theorem zkZ (hT:T.Fits P) (hs:bM ρ h w) (b8:fj ρ h h') {d:TypeId} (kW:OM T s=true) (hx:VR ρ x y) (hl:GF T d x h=some (v,h')) :
 ∃ ρ' u w',(convert s d y).run P w=.ok u w'/\Fr ρ ρ' h h' w w'/\bM ρ' h' w'/\VR ρ' v u:=by
 have r9:P.underlying s=some .string:=by
  unfold OM at kW
  split at kW
  .rename_i hd;exact hT.desc _ _ hd
  .cases kW
 unfold GF at hl
 split at hl
 .rename_i e b hd
  split at hl
  .rename_i tT z he hi
   split at hl
   .cases hl
   .rename_i JI
    have dV:¬ b.size > 1152921504606846976:=λg=>JI (.inl g)
    have hbt:e=zBf:=Decidable.byContradiction λg=>JI (.inr g)
    cases hl
    cases hx
    have ey:=Lib.run_convert_string_bytes w s d e b r9 (hT.desc _ _ hd) (hT.desc _ _ he)
    have tb:=grownCap_ge w b.size 0 e
    have hle:=grownCap_le_maxLen w b.size 0 e (by unfold maxLen;omega)
    have qV:(Lib.bytesCells w e b).size=grownCap w b.size 0 e:=by
     have CZ:b.data.size=b.size:=rfl
     simp only [Lib.bytesCells,Array.size_append,Array.size_map,Array.size_replicate,CZ]
     omega
    have hW:(Lib.bytesWorld w e b).heap=w.heap.push (.cells (Lib.bytesCells w e b) e ((Lib.bytesCells w e b).size,(Lib.bytesCells w e b).size+1)):=by
     apply Array.ext_getElem?
     intro j
     rw [xh]
     by_cases hj:j=w.heap.size
     .rw [aB hj,hj,Lib.bytesWorld_at_new]
     .rw [aA hj]
      by_cases Dn:j < w.heap.size
      .exact Lib.bytesWorld_at_old w e b j Dn
      .rw [Array.getElem?_eq_none (by rw [Lib.bytesWorld_size];omega),Array.getElem?_eq_none (by omega)]
    have mE:=BZ (k:=1) (q:=b.size) (by omega) (by unfold G;omega)
    obtain ⟨ρ',hρ,dI,ei⟩:=zjS (W:=Lib.bytesWorld w e b) (cs:=b.data.toList.map λu=>Value.int .u8 u.toNat) (m:=b.data.toList.map λu=>Value.int .u8 u.toNat) hs (b8 _ (aQ _) (by rw [Heap.size_push];omega))
     (fz:=((Lib.bytesCells w e b).size,(Lib.bytesCells w e b).size+1)) ⟨by intro j hj hh;have:=hh.1;simp at this;omega,.inl hbt⟩ hW
     (by simp [Lib.bytesWorld,World.freeze,World.alloc,World.drew,-World.alloc_eq,-World.drew_eq]) (by simp [Lib.bytesWorld,World.freeze,World.alloc,World.drew,-World.alloc_eq,-World.drew_eq]) (by simp [Lib.bytesWorld,World.freeze,World.alloc,World.drew,-World.alloc_eq,-World.drew_eq])
     (by refine uz ?_ (by simp) λj hj=>?_
         .simp [Lib.bytesCells]
         .simp only [gq,uE] at hj
          rw [i5]
          simp only [Lib.bytesCells,Array.toList_append,Array.toList_map]
          rw [jC (by simpa using hj)])
     (by refine ⟨rfl,λj a c ha hc=>?_⟩
         rw [ha] at hc
         cases hc
         rw [lk,cn] at ha
         obtain ⟨q,_,rfl⟩:=ha
         exact .int .u8 _)
    refine ⟨ρ',_,_,ey,dI,ei,?_⟩
    refine .cW hρ mE.1 (by rw [mE.2.1];exact tb) (by rw [mE.2.1];exact aQ _) (by rw [mE.2.2];omega) hle (λ_=>⟨by simp,?_⟩)
    rw [mE.2.2]
    show 0+0+grownCap w b.size 0 e*1<=(Lib.bytesCells w e b).size
    rw [qV]
    omega
  .cases hl
 .cases hl
end
end Go.Am
namespace Go.Am
open Go.RowKit
variable {e:Env} {v:ai}

section
variable {P:Program} {T:bN} {ρ:ct} {h h':Heap} {w:World}

theorem cd.put {e:Env} {a:Act} (he:cd ρ e a.tmps) {v u:ai} (hv:VR ρ v u) (d:Option Tmp):cd ρ (Am.put e d v) (a.put d u).tmps:=by
 cases d with
 |none=>exact he
 |some d =>
  refine ⟨by simp [Am.put,Act.put,Env.length_set,he.1],λi=>?_⟩
  simp only [Am.put,Act.put,Env.aH]
  by_cases hi:i=d/\d < e.length
  .rw [aB hi]
   obtain ⟨rfl,bc⟩:=hi
   have:(a.tmps.setIfInBounds i u).getD i undef=u:=by
    have Te:i < a.tmps.size:=by rw [<- he.1];exact bc
    simp [Te]
   rw [this]
   exact hv
  .rw [aA hi]
   have:(a.tmps.setIfInBounds d u).getD i undef=a.tmps.getD i undef:=by
    by_cases hid:d=i
    .subst hid
     have:¬ d < a.tmps.size:=by rw [<- he.1];exact λbc=>hi ⟨rfl,bc⟩
     simp [this]
    .simp [GH hid]
   rw [this]
   exact he.2 i

theorem cd.operand {a:Act} (he:cd ρ e a.tmps) {x:Operand} (hx:rQ ρ x):VR ρ (bE e x) (a.eval x):=by
 cases x with
 |tmp t=>exact he.2 t
 |const v=>exact .dj ρ hx
 |global g =>
  obtain ⟨t,ht⟩:=hx
  exact .ptr (o:=0) ht
 |func f=>exact .func _ rfl rfl (by intro i x y hx;simp at hx) (by intro i x y hx;simp at hx)

theorem cd.operands {a:Act} (he:cd ρ e a.tmps) (xs:List Operand) (hx:∀ x∈xs,rQ ρ x):cz ρ (xs.map (bE e)) (xs.map a.eval):=by
 induction xs with
 |nil=>exact .nil ρ
 |cons x xs ih =>
  exact .cons (he.operand (hx x (by simp))) (ih λy hy=>hx y (by simp [hy]))

theorem cd.opt {a:Act} (he:cd ρ e a.tmps) {x:Option Operand} (hx:∀ y,x=some y->rQ ρ y):qJ ρ (x.map (bE e)) (x.map a.eval):=by
 cases x with
 |none=>trivial
 |some y=>exact he.operand (hx y rfl)

def XA (P:Program) (ρ:ct) (h h':Heap) (w:World) (v:ai) (f:FuncId) (aK:Array ai):Prop :=
 (∃ ρ' u w',(callFunc f aK).run P w=.ok (.value u) w'/\Fr ρ ρ' h h' w w'/\bM ρ' h' w'/\VR ρ' v u) \/
 ((callFunc f aK).run P w=.ok (.enter f aK) w/\Calls P f aK w λed w'=>∃ ρ' u,ed=.returned u/\Fr ρ ρ' h h' w w'/\bM ρ' h' w'/\VR ρ' v u)

def zAZ (P:Program) (ρ:ct) (h h':Heap) (w:World) (v:ai) (l:Nat) (aK:Array ai):Prop :=
 ∃ f tmps assign body,(Instr.yield l aK).run P w=.ok (.round l f tmps assign body) w/\RoundIn Fence.wide 0 P l f tmps assign body w λed w'=>∃ ρ' u,ed=.returned u/\Fr ρ ρ' h h' w w'/\bM ρ' h' w'/\VR ρ' v u

structure CS (P:Program) (gs:List Nat) (C:Fn->List ai->Heap->Option (ai × Heap)):Prop where
 fn:∀ f args h v h',C (.func f) args h=some (v,h')->∀ ρ w (aK:Array ai),cU gs ρ->bM ρ h w->fj ρ h h'->cz ρ args aK.toList->XA P ρ h h' w v f aK
 yield:∀ A args h v h',C (.yield A) args h=some (v,h')->∀ ρ w (aK:Array ai) L,ρ A=some L->cU gs ρ->bM ρ h w->fj ρ h h'->cz ρ args aK.toList->zAZ P ρ h h' w v L.b aK

def Fs (P:Program) (ρ:ct) (h h':Heap) (w:World) (v:ai) (r:Result Next):Prop :=
 (∃ ρ' u w',(r=.ok (.value u) w'\/(r=.ok .skip w'/\u=undef))/\Fr ρ ρ' h h' w w'/\bM ρ' h' w'/\VR ρ' v u) \/
 (∃ f aK,r=.ok (.enter f aK) w/\Calls P f aK w λed w'=>∃ ρ' u,ed=.returned u/\Fr ρ ρ' h h' w w'/\bM ρ' h' w'/\VR ρ' v u) \/
 (∃ l f tmps assign body,r=.ok (.round l f tmps assign body) w/\RoundIn Fence.wide 0 P l f tmps assign body w λed w'=>∃ ρ' u,ed=.returned u/\Fr ρ ρ' h h' w w'/\bM ρ' h' w'/\VR ρ' v u)

theorem World.bK (w:World) (o:Obj):(w.alloc o).heap=w.heap.push o:=rfl

theorem Fs.still (hs:bM ρ h w) {u:ai} {r:Result Next} (hr:r=.ok (.value u) w) (hv:VR ρ v u):Fs P ρ h h w v r :=
 .inl ⟨ρ,u,w,.inl hr,Fr.refl _ _ _,hs,hv⟩

theorem KY {a:Act} {o:Oper} (hs:bM ρ h w) (he:cd ρ e a.tmps) (df:kb ρ o) (hp:gD P e o h=some (v,h')) (Da:(∀ x∈o.op.operands,a.eval x=bE e x)->execOp a.eval o=execOp (bE e) o) :
 Fs P ρ h h' w v ((execOp a.eval o).run P w):=by
 unfold gD at hp
 split at hp
 .rename_i aE
  have heq:∀ x∈o.op.operands,a.eval x=bE e x:=by
   intro x hx
   have h1:=jE.1 aE x (by simpa using hx)
   exact (he.operand (df x (by simpa using hx))).bG h1
  rw [Da heq]
  split at hp
  .rename_i v' hr
   split at hp
   .rename_i zj
    cases hp
    exact .still hs (K4 P _ _ hr w) (.dj ρ zj)
   .cases hp
  .cases hp
 .cases hp

theorem zlx {v:ai} (hs:bM ρ h w) (gy:ρ h.size=none) {t:TypeId} {cs:List ai} (u:ai) (hv:cz ρ cs u.cells.toList) :
 ∃ ρ',(newVar t u).run P w=.ok ⟨w.heap.size,0,none⟩ (w.alloc (.cells u.cells t))/\Fr ρ ρ' h (newRow t cs h).2 w (w.alloc (.cells u.cells t))/\bM ρ' (newRow t cs h).2 (w.alloc (.cells u.cells t)) /\
   VR ρ' (newRow t cs h).1 (.pointer (some ⟨w.heap.size,0,none⟩)):=by
 have _:=v
 obtain ⟨ρ',hρ,dI,ei⟩:=Gp (W:=w.alloc (.cells u.cells t)) (cs:=cs) (m:=u.cells.toList) hs gy rfl rfl rfl rfl (by rw [hv.1];exact uz (by omega) rfl (λj _=>by rw [i5])) hv
 refine ⟨ρ',by simp [newVar,Go.newRow],dI,ei,?_⟩
 have:=VR.ptr (ρ:=ρ') (o:=0) hρ
 simpa [newRow] using this

theorem zeT (ps:Array (Nat × Operand)) (f:Operand->ai):(ps.map λ(i,x)=>(i,f x))=(ps.toList.map λ(i,x)=>(i,f x)).toArray:=by
 apply Array.ext'
 simp

theorem zo4 {a:Act} (he:cd ρ e a.tmps) (ps:List (Nat × Operand)) (df:∀ x∈ps.map (·.2),rQ ρ x) :
 (ps.map λ(i,x)=>(i,bE e x)).length=(ps.map λ(i,x)=>(i,a.eval x)).length /\
 ∀ (i:Nat) (x y:Nat × ai),(ps.map λ(i,x)=>(i,bE e x))[i]? = some x->(ps.map λ(i,x)=>(i,a.eval x))[i]? = some y->x.1=y.1/\VR ρ x.2 y.2:=by
 refine ⟨by simp,λi x y hx hy=>?_⟩
 rw [lk,cn] at hx hy
 obtain ⟨⟨j,o⟩,h1,rfl⟩:=hx
 obtain ⟨⟨j',o'⟩,h2,rfl⟩:=hy
 rw [h1] at h2
 cases h2
 exact ⟨rfl,he.operand (df o (ph.2 ⟨(j,o),ek h1,rfl⟩))⟩

theorem Gb (hT:T.Fits P) {C:Fn->List ai->Heap->Option (ai × Heap)} {gs:List Nat} (hC:CS P gs C) (hG:cU gs ρ) {a:Act} {o:Oper} (hs:bM ρ h w) (he:cd ρ e a.tmps) (df:kb ρ o) (b8:fj ρ h h') 
 (aj:iq P T C e o h=some (v,h')):Fs P ρ h h' w v ((execOp a.eval o).run P w):=by
 have aE:∀ x∈o.op.operands.toList,rQ ρ x:=df
 unfold iq at aj
 dsimp only at aj
 split at aj
 .rename_i x aP
  cases aj
  refine .still (u:=a.eval x) hs (by simp [execOp,aP]) (he.operand (aE _ (by simp [aP,Op.operands])))
 .rename_i x aP
  cases aj
  refine .still (u:=a.eval x) hs (by simp [execOp,aP]) (he.operand (aE _ (by simp [aP,Op.operands])))
 .rename_i c x y aP
  have hc:=he.operand (aE c (by simp [aP,Op.operands]))
  have hx:=he.operand (aE x (by simp [aP,Op.operands]))
  have hy:=he.operand (aE y (by simp [aP,Op.operands]))
  split at aj
  .rename_i t ht
   cases aj
   rw [ht] at hc
   have dO:a.eval c=.bool t:=hc.bG rfl
   refine .still (u:=if t then a.eval x else a.eval y) hs (by simp [execOp,aP,dO,asBool]) ?_
   cases t
   .exact hy
   .exact hx
  .cases aj
 .rename_i t aP
  simp only [cn,Prod.exists] at aj
  obtain ⟨k,tT,z,ie,aj⟩:=aj
  obtain ⟨i,zv,hi,rfl,rfl,hz,rfl,zr,qo⟩:=hT.info t k tT z ie
  have e1:v=(newRow t zv.cells.toList h).1:=(congrArg Prod.fst aj).symm
  have e2:h'=(newRow t zv.cells.toList h).2:=(congrArg Prod.snd aj).symm
  subst e1 e2
  obtain ⟨ρ',h1,h2,h3,h4⟩:=zlx (P:=P) (v:=undef) hs (b8 _ (aQ _) (nj _)) (t:=t) zv (cz.plain ρ qo)
  refine .inl ⟨ρ',_,_,.inl ?_,h2,h3,h4⟩
  simp [execOp,aP,Instr.alloc,zeroValue,typeInfo,hi,hz,h1]
 .rename_i t x aP
  have hx:=he.operand (aE x (by simp [aP,Op.operands]))
  simp only [dR] at aj
  have e1:v=(newRow t (bE e x).cells.toList h).1:=(congrArg Prod.fst aj).symm
  have e2:h'=(newRow t (bE e x).cells.toList h).2:=(congrArg Prod.snd aj).symm
  subst e1 e2
  obtain ⟨ρ',h1,h2,h3,h4⟩:=zlx (P:=P) (v:=undef) hs (b8 _ (aQ _) (nj _)) (t:=t) (a.eval x) hx.cells
  refine .inl ⟨ρ',_,_,.inl ?_,h2,h3,h4⟩
  simp [execOp,aP,Instr.box,h1]
 .rename_i t ps aP
  simp only [cn,cR] at aj
  obtain ⟨r,hr,rfl,rfl⟩:=aj
  obtain ⟨p1,p2⟩:=zo4 he ps.toList (λx hx=>aE x (by simpa [aP,Op.operands] using hx))
  obtain ⟨vc,h1,h2⟩:=znX (ρ:=ρ) hT p1 p2 hr w
  refine .still hs ?_ h2
  simp only [execOp,aP,zeT,Sem.run_bind,h1,Result.andThen_ok,Sem.run_pure]
 .rename_i t n ps aP
  obtain ⟨p1,p2⟩:=zo4 he ps.toList (λx hx=>aE x (by simpa [aP,Op.operands] using hx))
  obtain ⟨ρ',vc,w',h1,h2,h3,h4⟩:=zho (ρ:=ρ) hT hs b8 p1 p2 aj
  refine .inl ⟨ρ',vc,w',.inl ?_,h2,h3,h4⟩
  simp only [execOp,aP,zeT,Sem.run_bind,h1,Result.andThen_ok,Sem.run_pure]
 .rename_i t x aP
  have hx:=he.operand (aE x (by simp [aP,Op.operands]))
  simp only [cn,cR] at aj
  obtain ⟨r,hr,rfl,rfl⟩:=aj
  obtain ⟨u,h1,h2⟩:=VD hT hs hx hr
  exact .still hs (by simp [execOp,aP,h1]) h2
 .rename_i t x y aP
  have hx:=he.operand (aE x (by simp [aP,Op.operands]))
  have hy:=he.operand (aE y (by simp [aP,Op.operands]))
  simp only [cn,cR] at aj
  obtain ⟨h1,hr,rfl,rfl⟩:=aj
  unfold iQ at hr
  split at hr
  .rename_i A off zn
   rw [zn] at hx
   simp only [cy] at hr
   obtain ⟨n,hn,hr⟩:=hr
   split at hr
   .rename_i dV
    generalize sT:a.eval x=ax at hx
    cases hx with
    |ptr hA =>
     rename_i L
     obtain ⟨w',cV,dI,ei⟩:=K1 (P:=P) hs hA hy.cells hr
     have qV:(a.eval y).cells.size=n:=by have:=hy.cells.1;simp at this;omega
     refine .inl ⟨ρ,undef,w',.inr ⟨?_,rfl⟩,dI,ei,.undef ρ⟩
     simp [execOp,aP,sT,Instr.storeAt,Instr.sureAddr,storeVar,tC hT hn,qV,cV]
   .cases hr
  .cases hr
 .rename_i x aP
  have hx:=he.operand (aE x (by simp [aP,Op.operands]))
  split at aj
  .rename_i ad zn
   cases aj
   rw [zn] at hx
   generalize sT:a.eval x=ax at hx
   cases hx with
   |ptr hA=>exact .still hs (by simp [execOp,aP,sT]) (.ptr hA)
  .rename_i f fi ca zn
   cases aj
   rw [zn] at hx
   generalize sT:a.eval x=ax at hx
   cases hx with
   |func _ hf hc h1 h2=>exact .still hs (by simp [execOp,aP,sT]) (.func _ hf hc h1 h2)
  .rename_i t z zn
   cases aj
   rw [zn] at hx
   generalize sT:a.eval x=ax at hx
   cases hx with
   |iface _ h1=>exact .still hs (by simp [execOp,aP,sT]) (.iface t h1)
  .cases aj
 .rename_i op t x y yt aP
  have hx:=he.operand (aE x (by simp [aP,Op.operands]))
  have hy:=he.operand (aE y (by simp [aP,Op.operands]))
  simp only [cn,cR] at aj
  obtain ⟨r,hr,rfl,rfl⟩:=aj
  obtain ⟨vc,h1,h2⟩:=zs2 hT hx hy hr x y w
  refine .still hs ?_ h2
  simp only [execOp,aP]
  rw [Sem.run_bind,h1]
  rfl
 .rename_i fn first captured aP
  split at aj
  .rename_i f
   cases aj
   have h1:=he.operands first.toList (λx hx=>aE x (by simp [aP,Op.operands];left;simpa using hx))
   have h2:=he.operands captured.toList (λx hx=>aE x (by simp [aP,Op.operands];right;simpa using hx))
   refine .still (u:=.func (.func f) (first.map a.eval) (captured.map a.eval)) hs ?_ ?_
   .simp [execOp,aP,Instr.makeFunc]
   .refine .func _ (by simp) (by simp) (λi x y hx hy=>h1.2 i x y ?_ ?_) (λi x y hx hy=>h2.2 i x y ?_ ?_)
    all_goals simp at hx hy ⊢;assumption
  .cases aj
 .rename_i t l c aP
  have hl:=he.operand (aE l (by simp [aP,Op.operands]))
  have hc:=he.operand (aE c (by simp [aP,Op.operands]))
  obtain ⟨ρ',vc,w',h1,h2,h3,h4⟩:=zir hT hs b8 hl hc aj
  refine .inl ⟨ρ',vc,w',.inl ?_,h2,h3,h4⟩
  simp [execOp,aP,h1]
 .rename_i t x l hi m aP
  have hx:=he.operand (aE x (by simp [aP,Op.operands]))
  have hl:=he.opt (x:=l) (λy hy=>aE y (by subst hy;simp [aP,Op.operands]))
  have oC:=he.opt (x:=hi) (λy hy=>aE y (by subst hy;simp [aP,Op.operands]))
  have hm:=he.opt (x:=m) (λy hy=>aE y (by subst hy;simp [aP,Op.operands]))
  simp only [cn,cR] at aj
  obtain ⟨r,hr,rfl,rfl⟩:=aj
  obtain ⟨vc,h1,h2⟩:=zpf hT hx hl oC hm hr w
  exact .still hs (by simp [execOp,aP,h1]) h2
 .rename_i s x f aP
  have hx:=he.operand (aE x (by simp [aP,Op.operands]))
  simp only [cn,cR] at aj
  obtain ⟨r,hr,rfl,rfl⟩:=aj
  obtain ⟨vc,h1,h2⟩:=zio hT hx hr w
  exact .still hs (by simp [execOp,aP,h1]) h2
 .rename_i t x f aP
  have hx:=he.operand (aE x (by simp [aP,Op.operands]))
  simp only [cn,cR] at aj
  obtain ⟨r,hr,rfl,rfl⟩:=aj
  obtain ⟨vc,h1,h2⟩:=zos hT hx hr w
  exact .still hs (by simp [execOp,aP,h1]) h2
 .rename_i t x i aP
  have hx:=he.operand (aE x (by simp [aP,Op.operands]))
  have hi:=he.operand (aE i (by simp [aP,Op.operands]))
  simp only [cn,cR] at aj
  obtain ⟨r,hr,rfl,rfl⟩:=aj
  obtain ⟨vc,h1,h2⟩:=ziq hT hx hi hr w
  exact .still hs (by simp [execOp,aP,h1]) h2
 .rename_i t i aP
  have ht:=he.operand (aE t (by simp [aP,Op.operands]))
  split at aj
  .rename_i vs hte
   rw [hte] at ht
   simp only [cn,cR] at aj
   obtain ⟨r,hr,rfl,rfl⟩:=aj
   generalize lS:a.eval t=at_ at ht
   cases ht with
   |tuple hc hh =>
    rename_i ds
    have bc:i < vs.size:=(my.1 hr).1
    have hd:ds[i]? = some (ds[i]'(by omega)):=GN _
    exact .still hs (by simp [execOp,aP,lS,Instr.extract,hd]) (hh i _ _ hr hd)
  .cases aj
 .rename_i op t x aP
  refine KY hs he df aj (λheq=>?_)
  have:=heq x (by simp [aP,Op.operands])
  simp [execOp,aP,this]
 .rename_i s t x aP
  split at aj
  .have hx:=he.operand (aE x (by simp [aP,Op.operands]))
   simp only [cn,cR] at aj
   obtain ⟨r,hr,rfl,rfl⟩:=aj
   obtain ⟨u,h1,h2⟩:=zkI hT hs hx hr
   exact .still hs (by simp [execOp,aP,h1]) h2
  .split at aj
   .split at aj
    .rename_i TK
     have hx:=he.operand (aE x (by simp [aP,Op.operands]))
     obtain ⟨ρ',u,w',r1,r2,r3,r4⟩:=zkZ hT hs b8 TK hx aj
     exact .inl ⟨ρ',u,w',.inl (by simp [execOp,aP,r1]),r2,r3,r4⟩
    .cases aj
   .refine KY hs he df aj (λheq=>?_)
    have:=heq x (by simp [aP,Op.operands])
    simp [execOp,aP,this]
 .rename_i t x i aP
  refine KY hs he df aj (λheq=>?_)
  have h1:=heq x (by simp [aP,Op.operands])
  have h2:=heq i (by simp [aP,Op.operands])
  simp [execOp,aP,h1,h2]
 .rename_i c aP
  obtain ⟨callee,args,argTypes⟩:=c
  have ef:∀ x∈args.toList,rQ ρ x:=λx hx=>aE x (by simp [aP,Op.operands,Call.operands];right;simpa using hx)
  dsimp only at aj
  split at aj
  .split at aj
   .rename_i t u s x tq nG
    have e1:argTypes=#[t,u]:=by apply Array.ext';simpa using tq
    have e2:args=#[s,x]:=by apply Array.ext';simpa using nG
    subst e1 e2
    have h1:=he.operand (ef s (by simp))
    have h2:=he.operand (ef x (by simp))
    split at aj
    .rename_i hu
     have JF:Mu P u:=by
      unfold tJ at hu
      simp only [sF,beq_iff_eq] at hu
      rcases hu with rfl|hu
      .have h4:=aj
       unfold j4 at h4
       split at h4
       .rename_i e' hd;exact .inl ⟨_,hT.desc _ _ hd⟩
       .cases h4
      .split at hu
       .rename_i hd;exact .inr (hT.desc _ _ hd)
       .rename_i e' hd;exact .inl ⟨_,hT.desc _ _ hd⟩
       .cases hu
     obtain ⟨ρ',vc,w',r1,r2,r3,r4⟩:=zl0 (ty:=o.type) hT hs b8 JF h1 h2 aj
     refine .inl ⟨ρ',vc,w',.inl ?_,r2,r3,r4⟩
     simp [execOp,aP,resolve,invoke,builtin,r1]
    .cases aj
   .cases aj
  .split at aj
   .rename_i t u d s tq nG
    have e1:argTypes=#[t,u]:=by apply Array.ext';simpa using tq
    have e2:args=#[d,s]:=by apply Array.ext';simpa using nG
    subst e1 e2
    have h1:=he.operand (ef d (by simp))
    have h2:=he.operand (ef s (by simp))
    obtain ⟨vc,w',r1,r2,r3,r4⟩:=zqa (u:=u) (ty:=o.type) hT hs h1 h2 aj
    refine .inl ⟨ρ,vc,w',.inl ?_,r2,r3,r4⟩
    simp [execOp,aP,resolve,invoke,builtin,r1]
   .cases aj
  .split at aj
   .rename_i t x tq nG
    have e1:argTypes=#[t]:=by apply Array.ext';simpa using tq
    have e2:args=#[x]:=by apply Array.ext';simpa using nG
    subst e1 e2
    have h1:=he.operand (ef x (by simp))
    simp only [cn,cR] at aj
    obtain ⟨h2,hr,rfl,rfl⟩:=aj
    obtain ⟨w',r1,r2,r3⟩:=zn3 (ty:=o.type) hT hs h1 hr
    refine .inl ⟨ρ,undef,w',.inl ?_,r2,r3,.undef ρ⟩
    simp [execOp,aP,resolve,invoke,builtin,r1]
   .cases aj
  .split at aj
   .rename_i t ts x tq nG
    have e2:args=#[x]:=by apply Array.ext';simpa using nG
    have e1:argTypes=(t::ts).toArray:=by apply Array.ext';simpa using tq
    subst e1 e2
    have h1:=he.operand (ef x (by simp))
    simp only [cn,cR] at aj
    obtain ⟨r,hr,rfl,rfl⟩:=aj
    obtain ⟨vc,r1,r2⟩:=ztB (ty:=o.type) hT hs h1 hr ts
    refine .still hs ?_ r2
    simp [execOp,aP,resolve,invoke,builtin,r1]
   .cases aj
  .refine KY hs he df aj (λheq=>?_)
   have hm:args.map a.eval=args.map (bE e):=by
    apply Array.map_congr_left
    intro x hx
    exact heq x (by simp [aP,Op.operands,Call.operands];exact hx)
   simp [execOp,aP,resolve,hm]
  .refine KY hs he df aj (λheq=>?_)
   have hm:args.map a.eval=args.map (bE e):=by
    apply Array.map_congr_left
    intro x hx
    exact heq x (by simp [aP,Op.operands,Call.operands];exact hx)
   simp [execOp,aP,resolve,hm]
  .split at aj
   .rename_i t ts m k tq nG
    have e2:args=#[m,k]:=by apply Array.ext';simpa using nG
    have e1:argTypes=(t::ts).toArray:=by apply Array.ext';simpa using tq
    subst e1 e2
    have h1:=he.operand (ef m (by simp))
    have h2:=he.operand (ef k (by simp))
    simp only [cn,cR] at aj
    obtain ⟨h3,hr,rfl,rfl⟩:=aj
    obtain ⟨w',r1,r2,r3⟩:=zmm (ty:=o.type) (ts:=ts) hT hs h1 h2 hr
    refine .inl ⟨ρ,undef,w',.inl ?_,r2,r3,.undef ρ⟩
    simp [execOp,aP,resolve,invoke,builtin,r1,undef]
   .cases aj
  .split at aj
   .rename_i t ts x tq nG
    have e2:args=#[x]:=by apply Array.ext';simpa using nG
    have e1:argTypes=(t::ts).toArray:=by apply Array.ext';simpa using tq
    subst e1 e2
    have h1:=he.operand (ef x (by simp))
    simp only [cn,cR] at aj
    obtain ⟨r,hr,rfl,rfl⟩:=aj
    obtain ⟨vc,r1,r2⟩:=ztf (ty:=o.type) hT h1 hr ts w
    refine .still hs ?_ r2
    simp [execOp,aP,resolve,invoke,builtin,r1]
   .cases aj
  .rename_i rv name
   have TC:=he.operand (aE rv (by simp [aP,Op.operands,Call.operands]))
   split at aj
   .rename_i t x Tz
    rw [Tz] at TC
    generalize AU:a.eval rv=ar at TC
    simp only [cy,Prod.exists] at aj
    obtain ⟨f,y,hm,aj⟩:=aj
    cases TC with
    |iface _ hx =>
     rename_i x'
     obtain ⟨y',r1,r2⟩:=zmB hT hs hx hm (P.types.size+Made.depth - 1)
     have hd:P.types.size+Made.depth - 1+1=P.types.size+Made.depth:=by simp [Made.depth]
     rw [hd] at r1
     have dg:=he.operands args.toList ef
     have vy:(execOp a.eval o).run P w=(callFunc f (#[y']++args.map a.eval)).run P w:=by
      have h0:(#[Value.iface t x']++Array.map a.eval args)[0]? = some (.iface t x'):=by rw [Array.getElem?_append_left (by simp)];rfl
      have Jo:(program:Sem Program).run P w=.ok P w:=rfl
      have hex:(#[Value.iface t x']++Array.map a.eval args).extract 1 (#[Value.iface t x']++Array.map a.eval args).size=Array.map a.eval args:=by
       rw [Array.extract_append]
       simp
      simp only [execOp,aP,resolve,Sem.run_bind,Sem.run_pure,Result.andThen_ok,invoke,AU,h0,callMethod,Jo,r1,hex]
     have nv:=hC.fn f _ h v h' aj ρ w (#[y']++args.map a.eval) hG hs b8 (by
      have:=cz.cons r2 dg
      simpa using this)
     rw [vy]
     rcases nv with ⟨ρ',u,w',q1,q2,q3,q4⟩|⟨q1,q2⟩
     .exact .inl ⟨ρ',u,w',.inl q1,q2,q3,q4⟩
     .exact .inr (.inl ⟨f,_,q1,q2⟩)
   .cases aj
  .rename_i f
   have hf:=he.operand (aE f (by simp [aP,Op.operands,Call.operands]))
   split at aj
   .rename_i g first captured IK
    rw [IK] at hf
    generalize Sf:a.eval f=af at hf
    cases hf with
    |func _ h1 h2 h3 h4 =>
     rename_i fZ dn
     have xE:cz ρ first.toList fZ.toList:=⟨by simpa using h1,λi x y hx hy=>h3 i x y (by simpa using hx) (by simpa using hy)⟩
     have ql:cz ρ captured.toList dn.toList:=⟨by simpa using h2,λi x y hx hy=>h4 i x y (by simpa using hx) (by simpa using hy)⟩
     have dg:=he.operands args.toList ef
     have nv:=hC.fn g _ h v h' aj ρ w ((fZ++args.map a.eval)++dn) hG hs b8 (by
      have:=(xE.append dg).append ql
      simpa using this)
     have vy:(execOp a.eval o).run P w=(callFunc g ((fZ++args.map a.eval)++dn)).run P w:=by
      simp [execOp,aP,resolve,Sf,Deferred.ofValue,invoke]
     rw [vy]
     rcases nv with ⟨ρ',u,w',r1,r2,r3,r4⟩|⟨r1,r2⟩
     .exact .inl ⟨ρ',u,w',.inl r1,r2,r3,r4⟩
     .exact .inr (.inl ⟨g,_,r1,r2⟩)
   .rename_i A first captured IK
    rw [IK] at hf
    generalize Sf:a.eval f=af at hf
    split at aj
    .cases hf with
     |yield hA =>
      rename_i L _
      have dg:=he.operands args.toList ef
      obtain ⟨g,tmps,assign,body,r1,r2⟩:=hC.yield A _ h v h' aj ρ w (args.map a.eval) L hA hG hs b8 (by simpa using dg)
      refine .inr (.inr ⟨L.b,g,tmps,assign,body,?_,r2⟩)
      rw [<- r1]
      simp [execOp,aP,resolve,Sf,Deferred.ofValue,invoke]
    .cases aj
   .cases aj
  .cases aj
 .rename_i t r aP
  have mb:∃ ρ',Fr ρ ρ' h (h.push (.map [] 0)) w (w.alloc (.map #[] 0))/\bM ρ' (h.push (.map [] 0)) (w.alloc (.map #[] 0))/\VR ρ' (.map (some h.size)) (.map (some w.heap.size))\/¬ (ρ h.size=none):=by
   by_cases hn:ρ h.size=none
   .obtain ⟨ρ',h1,h2,h3⟩:=VH (W:=w.alloc (.map #[] 0)) (L:=⟨w.heap.size,0,0⟩) (b:=.map [] 0) hs hn (λk hk=>by rw [Am.World.bK,xh,aA (by omega)]) (by rw [Am.World.bK];simp) rfl rfl rfl (aQ _)
     (λρ' _=>⟨#[],by rw [Am.World.bK];simp,rfl,by intro i x y hx;simp at hx⟩)
    exact ⟨ρ',.inl ⟨h2,h3,.map h1⟩⟩
   .exact ⟨ρ,.inr hn⟩
  split at aj
  .cases aj
   obtain ⟨ρ',⟨h2,h3,h4⟩|hn⟩:=mb
   .exact .inl ⟨ρ',_,_,.inl (by simp [execOp,aP,Instr.makeMap]),h2,h3,h4⟩
   .exact (hn (b8 _ (aQ _) (nj _))).elim
  .rename_i x
   have hx:=he.operand (aE x (by simp [aP,Op.operands]))
   split at aj
   .rename_i hd zn
    cases aj
    rw [zn] at hx
    generalize sT:a.eval x=ax at hx
    cases hx
    obtain ⟨ρ',⟨h2,h3,h4⟩|hn⟩:=mb
    .refine .inl ⟨ρ',_,_,.inl ?_,h2,h3,h4⟩
     simp [execOp,aP,Instr.makeMap,sT,run_underlying (hT.desc _ _ hd),asInt,asIntOf]
    .exact (hn (b8 _ (aQ _) (nj _))).elim
   .cases aj
 .rename_i t x k ok aP
  have hx:=he.operand (aE x (by simp [aP,Op.operands]))
  have hk:=he.operand (aE k (by simp [aP,Op.operands]))
  simp only [cn,cR] at aj
  obtain ⟨r,hr,rfl,rfl⟩:=aj
  obtain ⟨u,h1,h2⟩:=zmx hT hs hx hk hr
  exact .still hs (by simp [execOp,aP,h1]) h2
 .rename_i t m k x aP
  have hm:=he.operand (aE m (by simp [aP,Op.operands]))
  have hk:=he.operand (aE k (by simp [aP,Op.operands]))
  have hx:=he.operand (aE x (by simp [aP,Op.operands]))
  simp only [cn,cR] at aj
  obtain ⟨h1,hr,rfl,rfl⟩:=aj
  obtain ⟨w',r1,r2,r3⟩:=zhh hT hs hm hk hx hr
  exact .inl ⟨ρ,undef,w',.inr ⟨by simp [execOp,aP,r1],rfl⟩,r2,r3,.undef ρ⟩
 .rename_i t m k x aP
  have hm:=he.operand (aE m (by simp [aP,Op.operands]))
  have hk:=he.operand (aE k (by simp [aP,Op.operands]))
  have hx:=he.operand (aE x (by simp [aP,Op.operands]))
  simp only [cn,cR] at aj
  obtain ⟨h1,hr,rfl,rfl⟩:=aj
  obtain ⟨w',r1,r2,r3⟩:=zhh hT hs hm hk hx hr
  exact .inl ⟨ρ,undef,w',.inr ⟨by simp [execOp,aP,r1],rfl⟩,r2,r3,.undef ρ⟩
 .rename_i t m k aP
  have hm:=he.operand (aE m (by simp [aP,Op.operands]))
  have hk:=he.operand (aE k (by simp [aP,Op.operands]))
  obtain ⟨u,w',r1,r2,r3,r4⟩:=zon hT hs hm hk aj
  exact .inl ⟨ρ,u,w',.inl (by simp [execOp,aP,r1]),r2,r3,r4⟩
 .rename_i t m k x aP
  have hm:=he.operand (aE m (by simp [aP,Op.operands]))
  have hk:=he.operand (aE k (by simp [aP,Op.operands]))
  have hx:=he.operand (aE x (by simp [aP,Op.operands]))
  simp only [cn,cR] at aj
  obtain ⟨h1,hr,rfl,rfl⟩:=aj
  obtain ⟨w',r1,r2,r3⟩:=zhu (P:=P) (t:=t) hs hm hk hx hr
  exact .inl ⟨ρ,undef,w',.inr ⟨by simp [execOp,aP,r1],rfl⟩,r2,r3,.undef ρ⟩
 .rename_i t x aP
  have hx:=he.operand (aE x (by simp [aP,Op.operands]))
  simp only [cn,cR] at aj
  obtain ⟨r,hr,rfl,rfl⟩:=aj
  obtain ⟨u,h1,h2⟩:=zoy hT hx hr w
  exact .still hs (by simp [execOp,aP,h1]) h2
 .rename_i x xt t ok aP
  have hx:=he.operand (aE x (by simp [aP,Op.operands]))
  simp only [cn,cR] at aj
  obtain ⟨r,hr,rfl,rfl⟩:=aj
  obtain ⟨u,h1,h2⟩:=zl5 (xt:=xt) hT hx hr w
  exact .still hs (by simp [execOp,aP,h1]) h2
 .cases aj
end
end Go.Am
namespace Go.Am
open Go.RowKit
variable {k v x:ai} {o:Oper} {e:Env} {C:Fn->List ai->Heap->Option (ai × Heap)} {tmps:Array ai} {t:TypeId} {c:Code}

section
variable {P:Program} {T:bN} {ρ:ct} {h h':Heap} {w:World}

def WR (rl:Option Nat):Fence:={ Fence.wide with round:=rl }
theorem zlf {rl:Option Nat} {n:Nat} {f:FuncId} {args:Array ai} {R:Ending->World->Prop} (hc:Calls P f args w R):CallsIn (WR rl) n P f args w R :=
 (callsIn_wide (n:=n)).2 hc

theorem Fs.wp {a:Act} (hr:Fs P ρ h h' w v ((execOp a.eval o).run P w)) (Np:∀ c,o.op≠.defer c) {K:Act->World->Prop} {Q:Exit->Act->World->Prop} {rl:Option Nat}
 (hK:∀ ρ' u w',Fr ρ ρ' h h' w w'->bM ρ' h' w'->VR ρ' v u->K (a.put o.dst u) w'):o.wpIn (WR rl) 0 P a w K Q:=by
 unfold Oper.wpIn
 refine ⟨λ_ _=>trivial,?_⟩
 rw [Oper.semAt_eq _ _ _ Np]
 rcases hr with ⟨ρ',u,w',h1,h2,h3,h4⟩|⟨f,aK,h1,h2⟩|⟨l,f,tmps,assign,body,h1,h2⟩
 .rcases h1 with h1|⟨h1,rfl⟩
  .rw [h1];exact hK ρ' u w' h2 h3 h4
  .rw [h1];exact hK ρ' undef w' h2 h3 h4
 .rw [h1]
  refine ⟨(λhh=>by cases hh),zlf (h2.mono ?_)⟩
  rintro ed w' ⟨ρ',u,rfl,h3,h4,h5⟩
  exact hK ρ' u w' h3 h4 h5
 .rw [h1]
  refine ⟨(λhh=>by cases hh),RoundIn.mono h2 ?_⟩
  rintro ed w' ⟨ρ',u,rfl,h3,h4,h5⟩
  exact hK ρ' u w' h3 h4 h5

theorem F5 (aj:iq P T C e o h=some (v,h')):∀ c,o.op≠.defer c:=by
 intro c hc
 simp [iq,hc] at aj

theorem zpy {ops:Array Oper} (he:cd ρ e tmps):Region.wanted o (yielded ops tmps)=mI ops o e:=by
 unfold Region.wanted mI
 cases o.guard with
 |none=>rfl
 |some g =>
  obtain ⟨j,b⟩:=g
  simp only [yielded]
  cases (ops[j]?).bind (·.dst) with
  |none=>simp
  |some t =>
   simp only [dH]
   have hv:=he.2 t
   cases ht:tmps[t]? with
   |none =>
    have hlen:tmps.size<=t:=by
     rcases mM t tmps.size with bc|tb
     .rw [GN bc] at ht;cases ht
     .exact tb
    rw [Env.np e t (by rw [he.1];exact hlen)]
    rfl
   |some u =>
    have hu:tmps.getD t undef=u:=by simp [ht]
    rw [hu] at hv
    generalize e.get t=x at hv
    cases hv <;> first|rfl|(cases b <;> rename_i c <;> cases c <;> rfl)

structure bq (h h':Heap):Prop where
 size:h.size<=h'.size
 low:h'.low<=h.low
 get:∀ A,A < h.size->A < h'.low->h'.get A=h.get A

theorem bq.refl (h:Heap):bq h h:=⟨aQ _,aQ _,λ_ _ _=>rfl⟩
theorem bq.trans {h h1 h2:Heap} (a:bq h h1) (b:bq h1 h2):bq h h2 :=
 ⟨dZ a.size b.size,dZ b.low a.low,λA h3 h4=>(b.get A (dt h3 a.size) h4).trans (a.get A h3 (dt h4 b.low))⟩
theorem bq.push (h:Heap) (b:aZ):bq h (h.push b):=⟨mN _,aQ _,λA h3 _=>by rw [Heap.bH,aA (by omega)]⟩
theorem bq.set {h:Heap} {A:Nat} (b:aZ) (hA:A < h.size):bq h (h.set A b) :=
 ⟨aQ _,xj _ _,λA' _ h4=>by rw [Heap.cA] at h4;rw [Heap.aH _ _ _ _ hA,aA (by omega)]⟩

theorem NU {A o:Nat} {vs:List ai} (hw:nQ A o vs h=some h'):bq h h':=by
 unfold nQ at hw
 split at hw
 .rename_i hg
  split at hw
  .cases hw;exact .set _ (Heap.ao hg)
  .cases hw
 .cases hw

theorem zlZ {s:ai} (ha:j4 T t s x h=some (v,h')):bq h h':=by
 unfold j4 at ha
 split at ha
 .simp only [cy,Prod.exists] at ha
  obtain ⟨k,tT,z,_,m,news,_,ha⟩:=ha
  split at ha
  .split at ha
   .cases ha;exact .refl _
   .split at ha
    .cases ha
    .split at ha
     .split at ha
      .split at ha
       .simp only [cn,cR] at ha
        obtain ⟨h1,hw,_,rfl⟩:=ha
        exact NU hw
       .cases ha
      .cases ha
     .simp only [cy] at ha
      obtain ⟨eA,_,ha⟩:=ha
      split at ha
      .cases ha;exact .push _ _
      .split at ha
       .split at ha
        .rename_i hg
         split at ha
         .cases ha;exact (bq.set _ (Heap.ao hg)).trans (.push _ _)
         .cases ha
        .cases ha
       .cases ha
  .cases ha
 .cases ha

theorem zhg (hr:nN T t x k v h=some h'):bq h h':=by
 unfold nN at hr
 split at hr
 .split at hr
  .rename_i hg
   split at hr
   .simp only [cy] at hr
    obtain ⟨r,_,hr⟩:=hr
    split at hr
    .simp only [cy] at hr
     obtain ⟨e,_,hr⟩:=hr
     split at hr
     .cases hr;exact .set _ (Heap.ao hg)
     .cases hr
    .cases hr;exact .set _ (Heap.ao hg)
   .cases hr
  .cases hr
 .cases hr

theorem zkY {d:TypeId} (hr:GF T d x h=some (v,h')):bq h h':=by
 unfold GF at hr
 split at hr
 .split at hr
  .split at hr
   .cases hr
   .cases hr;exact .push _ _
  .cases hr
 .cases hr
theorem zom (hr:Mj T t x k h=some (v,h')):bq h h':=by
 unfold Mj at hr
 split at hr
 .split at hr
  .rename_i hg
   split at hr
   .simp only [cy] at hr
    obtain ⟨r,_,hr⟩:=hr
    split at hr
    .simp only [cy] at hr
     obtain ⟨e,_,hr⟩:=hr
     split at hr
     .cases hr;exact .set _ (Heap.ao hg)
     .cases hr
    .simp only [cn,cR] at hr
     obtain ⟨z,_,_,rfl⟩:=hr
     exact .set _ (Heap.ao hg)
   .cases hr
  .cases hr
 .cases hr
theorem zht {s:ai} (hr:Ld x s v h=some h'):bq h h':=by
 unfold Ld at hr
 split at hr
 .split at hr
  .rename_i hg
   simp only [cn] at hr
   obtain ⟨i,_,rfl⟩:=hr
   exact .set _ (Heap.ao hg)
  .cases hr
 .cases hr

theorem zml (hr:LS T t x k h=some h'):bq h h':=by
 unfold LS at hr
 split at hr
 .split at hr
  .cases hr;exact .refl _
  .cases hr
 .split at hr
  .rename_i hg
   split at hr
   .simp only [cy] at hr
    obtain ⟨r,_,hr⟩:=hr
    split at hr
    .cases hr;exact .set _ (Heap.ao hg)
    .cases hr;exact .set _ (Heap.ao hg)
   .cases hr
  .cases hr
 .cases hr

def sC (C:Fn->List ai->Heap->Option (ai × Heap)):Prop:=∀ f args h v h',C f args h=some (v,h')->bq h h'

theorem Ep (hC:sC C) (aj:iq P T C e o h=some (v,h')):bq h h':=by
 have cH:∀ {r:Option ai},(r.map λx=>(x,h))=some (v,h')->bq h h':=by
  intro r hr
  simp only [cn,cR] at hr
  obtain ⟨_,_,_,rfl⟩:=hr
  exact .refl _
 have dJ:gD P e o h=some (v,h')->bq h h':=by
  intro hp
  unfold gD at hp
  split at hp
  .split at hp
   .split at hp
    .cases hp;exact .refl _
    .cases hp
   .cases hp
  .cases hp
 unfold iq at aj
 dsimp only at aj
 split at aj
 .cases aj;exact .refl _
 .cases aj;exact .refl _
 .split at aj
  .cases aj;exact .refl _
  .cases aj
 .simp only [cn,Prod.exists] at aj
  obtain ⟨_,_,z,_,aj⟩:=aj
  have e2:=congrArg Prod.snd aj
  simp only at e2
  subst e2
  exact .push _ _
 .simp only [dR] at aj
  have e2:=congrArg Prod.snd aj
  simp only at e2
  subst e2
  exact .push _ _
 .exact cH aj
 .unfold wW at aj
  split at aj
  .simp only [cy,Prod.exists] at aj
   obtain ⟨_,_,_,_,aj⟩:=aj
   split at aj
   .cases aj
   .simp only [cn,cR] at aj
    obtain ⟨_,_,_,rfl⟩:=aj
    exact .push _ _
  .cases aj
 .exact cH aj
 .simp only [cn,cR] at aj
  obtain ⟨h1,hr,_,rfl⟩:=aj
  unfold iQ at hr
  split at hr
  .simp only [cy] at hr
   obtain ⟨_,_,hr⟩:=hr
   split at hr
   .exact NU hr
   .cases hr
  .cases hr
 .split at aj
  .cases aj;exact .refl _
  .cases aj;exact .refl _
  .cases aj;exact .refl _
  .cases aj
 .exact cH aj
 .split at aj
  .cases aj;exact .refl _
  .cases aj
 .unfold Li at aj
  split at aj
  .simp only [cy,Prod.exists] at aj
   obtain ⟨_,_,_,_,aj⟩:=aj
   split at aj
   .cases aj;exact .push _ _
   .cases aj
  .cases aj
 .exact cH aj
 .exact cH aj
 .exact cH aj
 .exact cH aj
 .split at aj
  .exact cH aj
  .cases aj
 .exact dJ aj
 .split at aj
  .exact cH aj
  .split at aj
   .split at aj
    .exact zkY aj
    .cases aj
   .exact dJ aj
 .exact dJ aj
 .split at aj
  .split at aj
   .split at aj
    .exact zlZ aj
    .cases aj
   .cases aj
  .split at aj
   .unfold My at aj
    split at aj
    .simp only [cy,Prod.exists] at aj
     obtain ⟨_,_,_,_,_,aj⟩:=aj
     split at aj
     .cases aj;exact .refl _
     .split at aj
      .simp only [cn,cR] at aj
       obtain ⟨h1,hw,_,rfl⟩:=aj
       exact NU hw
      .cases aj
    .cases aj
   .cases aj
  .split at aj
   .simp only [cn,cR] at aj
    obtain ⟨h1,hr,_,rfl⟩:=aj
    unfold uy at hr
    split at hr
    .split at hr
     .cases hr;exact .refl _
     .simp only [cy,Prod.exists] at hr
      obtain ⟨_,_,_,_,hr⟩:=hr
      split at hr
      .exact NU hr
      .cases hr
    .cases hr
   .cases aj
  .split at aj
   .exact cH aj
   .cases aj
  .exact dJ aj
  .exact dJ aj
  .split at aj
   .simp only [cn,cR] at aj
    obtain ⟨h1,hr,_,rfl⟩:=aj
    exact zml hr
   .cases aj
  .split at aj
   .exact cH aj
   .cases aj
  .split at aj
   .simp only [cy,Prod.exists] at aj
    obtain ⟨_,_,_,aj⟩:=aj
    exact hC _ _ _ _ _ aj
   .cases aj
  .split at aj
   .exact hC _ _ _ _ _ aj
   .split at aj
    .exact hC _ _ _ _ _ aj
    .cases aj
   .cases aj
  .cases aj
 .split at aj
  .cases aj;exact .push _ _
  .split at aj
   .cases aj;exact .push _ _
   .cases aj
 .exact cH aj
 .simp only [cn,cR] at aj
  obtain ⟨h1,hr,_,rfl⟩:=aj
  exact zhg hr
 .simp only [cn,cR] at aj
  obtain ⟨h1,hr,_,rfl⟩:=aj
  exact zhg hr
 .exact zom aj
 .simp only [cn,cR] at aj
  obtain ⟨h1,hr,_,rfl⟩:=aj
  exact zht hr
 .exact cH aj
 .exact cH aj
 .cases aj

theorem NY {C:Fn->List ai->Heap->Option (ai × Heap)} (hC:sC C) {ops:Array Oper}:∀ (l:List Oper) (e e':Env) (h h':Heap),rE P T C ops l e h=some (e',h')->bq h h'
 | [],e,e',h,h',aj=>by simp only [rE,dR,cR] at aj;obtain ⟨_,rfl⟩:=aj;exact .refl _
 |o::l,e,e',h,h',aj=>by
  simp only [rE] at aj
  split at aj
  .split at aj
   .rename_i v h1 h2
    exact (Ep hC h2).trans (NY hC l _ _ _ _ aj)
   .cases aj
  .exact NY hC l _ _ _ _ aj

theorem Vn (hT:T.Fits P) {C:Fn->List ai->Heap->Option (ai × Heap)} {gs:List Nat} (hC:CS P gs C) (hg:sC C) {ops:Array Oper} {Q:Exit->Act->World->Prop} {rl:Option Nat} {dd:List Deferred} :
 ∀ (l:List Oper) (e e':Env) (h h':Heap) (ρ:ct) (a:Act) (w:World),rE P T C ops l e h=some (e',h')->(∀ o∈l,kb ρ o)->cU gs ρ->bM ρ h w->fj ρ h h'->cd ρ e a.tmps->a.defers=dd ->
   (∀ ρ' a' w',Fr ρ ρ' h h' w w'->bM ρ' h' w'->cd ρ' e' a'.tmps->a'.defers=dd->Q .normal a' w')->wpListIn (WR rl) 0 P ops Q l a w
 | [],e,e',h,h',ρ,a,w,aj,_,_,hs,_,he,hd,hQ=>by
  simp only [rE,dR,cR] at aj
  obtain ⟨rfl,rfl⟩:=aj
  exact hQ ρ a w (Fr.refl _ _ _) hs he hd
 |o::l,e,e',h,h',ρ,a,w,aj,df,hG,hs,hf,he,hd,hQ=>by
  have Tt:=df o (by simp)
  have Jk:∀ q∈l,kb ρ q:=λq hq=>df q (by simp [hq])
  simp only [rE] at aj
  unfold wpListIn
  rw [zpy he]
  split at aj
  .rename_i hw
   rw [aB hw]
   split at aj
   .rename_i v h1 h2
    have dV:=(NY hg l _ _ _ _ aj).size
    refine (Gb hT hC hG hs he Tt (hf.left dV) h2).wp (F5 h2) λρ1 u w1 f1 s1 v1=>?_
    refine Vn hT hC hg l _ _ _ _ ρ1 _ w1 aj (λq hq=>(Jk q hq).mono f1.grow) (hG.mono f1.grow) s1 (hf.right f1) ((he.mono f1.grow).put v1 o.dst) (by cases o.dst <;> exact hd) ?_
    intro ρ2 a2 w2 f2 s2 e2 d2
    exact hQ ρ2 a2 w2 (f1.trans f2) s2 e2 d2
   .cases aj
  .rename_i hw
   rw [aA hw]
   refine ⟨λ_ _=>trivial,?_⟩
   exact Vn hT hC hg l _ _ _ _ ρ _ w aj Jk hG hs hf (he.put (.undef ρ) o.dst) (by cases o.dst <;> exact hd) hQ

def Ex.to:Ex->Exit
 | .normal=>.normal
 | .exit id=>.exit id
 | .ret=>.ret

def DS (P:Program) (gs:List Nat) (D:Array Oper->Env->Heap->Option (Env × Heap)):Prop :=
 ∀ (rl:Option Nat) (id:Nat) (ops:Array Oper) (e e':Env) (h h':Heap) (ρ:ct) (a:Act) (w:World) (Q:Exit->Act->World->Prop),D ops e h=some (e',h')->(∀ o∈ops.toList,kb ρ o)->cU gs ρ->bM ρ h w->fj ρ h h'->cd ρ e a.tmps ->
   (∀ ρ' a' w',Fr ρ ρ' h h' w w'->bM ρ' h' w'->cd ρ' e' a'.tmps->a'.defers=a.defers->Q .normal a' w')->(Code.region id ops true).wpIn (WR rl) 0 P Q a w
def Xk (D:Array Oper->Env->Heap->Option (Env × Heap)):Prop:=∀ ops e h e' h',D ops e h=some (e',h')->bq h h'

theorem V3 {f:Env->Heap->Option (Ex × Env × Heap)} (hf:∀ e h x e' h',f e h=some (x,e',h')->bq h h'):∀ (n:Nat) (e:Env) (h:Heap) (x:Ex) (e':Env) (h':Heap),iter f n e h=some (x,e',h')->bq h h'
 |0,_,_,_,_,_,hi=>by simp [iter] at hi
 |n+1,e,h,x,e',h',hi=>by
  simp only [iter] at hi
  split at hi
  .rename_i e1 h1 h2
   exact (hf _ _ _ _ _ h2).trans (V3 hf n _ _ _ _ _ hi)
  .exact hf _ _ _ _ _ hi

theorem zeU {l:Nat} {e':Env} {x:Ex} (aj:Gd l e h=some (x,e',h')):bq h h':=by
 unfold Gd at aj
 split at aj
 .rename_i hg
  split at aj
  .cases aj
  .split at aj
   .cases aj;exact .set _ (Heap.ao hg)
   .cases aj;exact .set _ (Heap.ao hg)
   .cases aj;exact .set _ (Heap.ao hg)
   .cases aj
 .cases aj
theorem zo6 (hC:sC C) {rd:Option Nat} {g:ai} {ps:List Tmp} {assign body:Code} {e':Env} {x:Ex} (aj:GY T C rd g ps assign body e h=some (x,e',h')):bq h h':=by
 unfold GY at aj
 split at aj
 .split at aj
  .split at aj
   .rename_i hc
    exact ((bq.push _ _).trans (hC _ _ _ _ _ hc)).trans (zeU aj)
   .cases aj
  .cases aj
 .cases aj

theorem Es {D:Array Oper->Env->Heap->Option (Env × Heap)} (hC:sC C) (hD:Xk D) (rd:Option Nat) (fuel:Nat):∀ (c:Code) (e:Env) (h:Heap) (x:Ex) (e':Env) (h':Heap),dL P T C D rd fuel c e h=some (x,e',h')->bq h h':=by
 intro c
 induction c with
 |skip=>intro e h x e' h' aj;simp only [dL,dR,cR] at aj;obtain ⟨_,_,rfl⟩:=aj;exact .refl _
 |region id ops d =>
  intro e h x e' h' aj
  simp only [dL,cn,Prod.exists,cR] at aj
  obtain ⟨e1,h1,hr,_,rfl,rfl⟩:=aj
  split at hr
  .exact hD _ _ _ _ _ hr
  .exact NY hC _ _ _ _ _ hr
 |seq a b jh ji =>
  intro e h x e' h' aj
  simp only [dL] at aj
  split at aj
  .rename_i e1 h1 h2
   exact (jh _ _ _ _ _ h2).trans (ji _ _ _ _ _ aj)
  .exact jh _ _ _ _ _ aj
 |cond c a b jh ji =>
  intro e h x e' h' aj
  simp only [dL] at aj
  split at aj
  .exact jh _ _ _ _ _ aj
  .exact ji _ _ _ _ _ aj
  .cases aj
 |block id c ih =>
  intro e h x e' h' aj
  simp only [dL] at aj
  split at aj
  .rename_i i e1 h1 h2
   have:=ih _ _ _ _ _ h2
   split at aj <;> (simp only [dR,cR] at aj;obtain ⟨_,_,rfl⟩:=aj;exact this)
  .exact ih _ _ _ _ _ aj
 |loop c ih=>intro e h x e' h' aj;simp only [dL] at aj;exact V3 ih _ _ _ _ _ _ aj
 |exit id=>intro e h x e' h' aj;simp only [dL,dR,cR] at aj;obtain ⟨_,_,rfl⟩:=aj;exact .refl _
 |ret=>intro e h x e' h' aj;simp only [dL,dR,cR] at aj;obtain ⟨_,_,rfl⟩:=aj;exact .refl _
 |label l=>intro e h x e' h' aj;simp only [dL,dR,cR] at aj;obtain ⟨_,_,rfl⟩:=aj;exact .refl _
 |rangeFunc f ps a b _ _=>intro e h x e' h' aj;exact zo6 hC aj
 |scope c ih=>intro e h x e' h' aj;exact ih _ _ _ _ _ aj
 |goto l=>intro e h x e' h' aj;simp [dL] at aj
 |refuse s=>intro e h x e' h' aj;simp [dL] at aj

def mw:Code->Bool
 | .seq a b=>mw a && mw b
 | .cond _ a b=>mw a && mw b
 | .block _ c=>mw c
 | .loop c=>mw c
 | .scope c=>mw c
 | .rangeFunc _ _ _ _=>false
 |_=>true
def Marks (n0:Nat) (B:List Deferred) (nr:Bool) (ρ:ct) (w:World) (ds:List Deferred):Prop :=
 ∃ rs:List Nat,ds=rs.map (λr=>{ target:=.collected r,args:=#[] })++B/\rs.Nodup/\(nr=true->rs=[])/\∀ r∈rs,n0<=r/\w.heap[r]? = some (.deferred (some []))/\∀ A L,ρ A=some L->L.b≠r
theorem Marks.nil {n0:Nat} {B:List Deferred} {nr:Bool}:Marks n0 B nr ρ w B:=⟨[],rfl,.nil,λ_=>rfl,by intro r hr;cases hr⟩
theorem Marks.step {n0:Nat} {B:List Deferred} {nr:Bool} {ρ':ct} {w':World} {ds:List Deferred} (hm:Marks n0 B nr ρ w ds) (f:Fr ρ ρ' h h' w w'):Marks n0 B nr ρ' w' ds:=by
 obtain ⟨rs,h1,h2,h0,h3⟩:=hm
 refine ⟨rs,h1,h2,h0,λr hr=>?_⟩
 obtain ⟨a1,a2,a3⟩:=h3 r hr
 have bc:r < w.heap.size:=(my.1 a2).1
 refine ⟨a1,(f.fN r bc λA L hA hb=>(a3 A L hA hb).elim).trans a2,λA L hA hb=>?_⟩
 cases hρ:ρ A with
 |some L0 =>
  have e:L0=L:=by have:=f.grow A L0 hρ;rw [hA] at this;exact (Option.some.inj this).symm
  subst e
  exact a3 A L0 hρ hb
 |none =>
  rcases (f.fresh A L hA hρ).2.2 with h4|⟨A0,L0,h4,h5,_⟩
  .omega
  .exact a3 A0 L0 h4 (h5.trans hb)

def Ft (ρ:ct):Option Nat->Option Nat->Prop
 |none,none=>True
 |some A,some l=>∃ L,ρ A=some L/\L.b=l
 |_,_=>False
theorem Ft.mono {ρ':ct} (hg:∀ A L,ρ A=some L->ρ' A=some L):∀ {rd rl:Option Nat},Ft ρ rd rl->Ft ρ' rd rl
 |none,none,_=>trivial
 |some _,some _,⟨L,h1,h2⟩=>⟨L,hg _ _ h1,h2⟩
 |none,some _,hh=>hh.elim
 |some _,none,hh=>hh.elim

theorem F8 {b:Frame} {a:Act} {k:List Item} {cs:List Frame}:step P (lone (b.atR a (.code (.scope c)::k)) cs w)=.next (lone (b.atR a (.code c::.inScope c::k)) cs w) :=
 step_lone_go (by simp [stepG,stepG.exec,Frame.atR])
theorem zm2 {b:Frame} {a:Act} {k:List Item} {cs:List Frame}:step P (lone (b.atR a (.inScope c::k)) cs w)=.next (lone (b.atR a k) cs w) :=
 step_lone_go (by simp [stepG,stepG.exec,Frame.atR])
theorem zgw {F:Fence} {n:Nat} {Q:Exit->Act->World->Prop} {a:Act} (hc:c.wpIn F n P (Exit.noGoto Q) a w):(Code.scope c).wpIn F n P Q a w:=by
 intro b k cs FU hb hr
 have h0:(lone (b.atR a (.code (.scope c)::k)) cs w).fenced P F:=fenced_calm hb hr rfl
 obtain ⟨e,a₁,w₁,hq,sS⟩:=hc b (.inScope c::k) cs FU hb hr
 cases e with
 |normal=>exact ⟨.normal,a₁,w₁,hq,.head h0 F8 (StepsIn.trans sS (.one (fenced_calm hb hr rfl) zm2))⟩
 |exit id =>
  have hx:exitTo id (.inScope c::k)=exitTo id k:=by simp [exitTo]
  exact ⟨.exit id,a₁,w₁,hq,λk' hk=>.head h0 F8 (sS.1 k' (by rw [hx];exact hk)),
   λcI hk=>let ⟨k₁,h1,h2⟩:=sS.2 cI (by rw [hx];exact hk);⟨k₁,h1,.head h0 F8 h2⟩⟩
 |goto l=>exact hq.elim
 |ret=>exact ⟨_,a₁,w₁,hq,.of_steps (.one h0 F8) sS⟩
 |panic ch=>exact ⟨_,a₁,w₁,hq,.of_steps (.one h0 F8) sS⟩
 |outgrown=>exact ⟨_,a₁,w₁,hq,.of_steps (.one h0 F8) sS⟩

theorem N1 (w:World) (r:Nat) (o:Obj):(w.putObj r o).heap=w.heap.setIfInBounds r o:=rfl
theorem zwC {r:Nat} {o:Obj} (bc:r < w.heap.size):(w.putObj r o).heap[r]? = some o:=by rw [N1];simp [bc]
theorem NS {r k:Nat} {o:Obj} (hk:k≠r):(w.putObj r o).heap[k]? = w.heap[k]? := by
 rw [N1,GH (Ne.symm hk)]

theorem Lh (hs:bM ρ h w) {A:Nat} {L:Loc} (hA:ρ A=some L) {env:List ai} {ps:List Tmp} {assign body:Code} {st:LoopState} {fF:Option Code} (hg:h.get A=some (.loop env ps assign body st fF)) :
 ∃ l:Loop,w.heap[L.b]? = some (.loop l)/\l.state=st/\l.pending=fF/\l.params.toList=ps/\l.assign=assign/\l.body=body/\cd ρ env l.tmps/\cq ρ assign/\cq ρ body /\
   ∀ Kh pT,Fr ρ ρ h (h.set A (.loop env ps assign body Kh pT)) w (w.putObj L.b (.loop { l with state:=Kh,pending:=pT }))/\bM ρ (h.set A (.loop env ps assign body Kh pT)) (w.putObj L.b (.loop { l with state:=Kh,pending:=pT })):=by
 have hb:=hs.lx A L hA
 rw [hg] at hb
 obtain ⟨l,h1,h2,h3,h4,h5,h6,h7,h8,h9⟩:=hb
 refine ⟨l,h1,h2,h3,h4,h5,h6,h7,h8,h9,λKh pT=>?_⟩
 have bc:L.b < w.heap.size:=(my.1 h1).1
 exact Lj hs hA hg (by simp) (by simp) rfl rfl rfl (by rw [N1];simp) (λq hq=>NS hq) ⟨_,zwC bc,rfl,rfl,h4,h5,h6,h7,h8,h9⟩

theorem zf1 (hT:T.Fits P) {D:Array Oper->Env->Heap->Option (Env × Heap)} {gs:List Nat} (hC:CS P gs C) (hg:sC C) (hD:DS P gs D) (M7:Xk D) (rd rl:Option Nat) (n0:Nat) (B:List Deferred) (nr:Bool) (fuel:Nat) :
 ∀ (c:Code) (e:Env) (h:Heap) (x:Ex) (e':Env) (h':Heap) (ρ:ct) (a:Act) (w:World) (Q:Exit->Act->World->Prop),dL P T C D rd fuel c e h=some (x,e',h')->cq ρ c->(nr=true->mw c=true)->cU gs ρ->bM ρ h w->fj ρ h h'->cd ρ e a.tmps->Marks n0 B nr ρ w a.defers->Ft ρ rd rl->n0<=w.heap.size ->
   (∀ ρ' a' w',Fr ρ ρ' h h' w w'->bM ρ' h' w'->cd ρ' e' a'.tmps->Marks n0 B nr ρ' w' a'.defers->Q x.to a' w')->c.wpIn (WR rl) 0 P Q a w:=by
 intro c
 induction c with
 |skip =>
  intro e h x e' h' ρ a w Q aj _ _ _ hs _ he hd _ _ hQ
  simp only [dL,dR,cR] at aj
  obtain ⟨rfl,rfl,rfl⟩:=aj
  exact wpIn_skip (hQ ρ a w (Fr.refl _ _ _) hs he hd)
 |region id ops d =>
  intro e h x e' h' ρ a w Q aj df _ hG hs hf he hd _ _ hQ
  simp only [dL,cn,Prod.exists,cR] at aj
  obtain ⟨e1,h1,hr,rfl,rfl,rfl⟩:=aj
  have YY:∀ ρ' a' w',Fr ρ ρ' h h1 w w'->bM ρ' h1 w'->cd ρ' e1 a'.tmps->a'.defers=a.defers->Q .normal a' w':=λρ' a' w' f1 s1 r1 d1=>hQ ρ' a' w' f1 s1 r1 (by rw [d1];exact hd.step f1)
  cases d with
  |true =>
   simp only [if_true] at hr
   exact hD rl id ops e e1 h h1 ρ a w Q hr df hG hs hf he YY
  |false =>
   simp only [gH,if_false] at hr
   exact wpIn_region_list (Vn hT hC hg ops.toList e e1 h h1 ρ a w hr df hG hs hf he rfl YY)
 |seq c1 c2 Nw Ug =>
  intro e h x e' h' ρ a w Q aj df mc hG hs hf he hd mW hn hQ
  simp only [dL] at aj
  have zg:nr=true->mw c1=true:=λq=>by have:=mc q;simp only [mw,dW] at this;exact this.1
  have DA:nr=true->mw c2=true:=λq=>by have:=mc q;simp only [mw,dW] at this;exact this.2
  refine wpIn_seq ?_
  split at aj
  .rename_i e1 h1 h2
   have dV:=(Es hg M7 rd fuel c2 _ _ _ _ _ aj).size
   refine Nw e h .normal e1 h1 ρ a w _ h2 df.1 zg hG hs (hf.left dV) he hd mW hn λρ1 a1 w1 f1 s1 r1 d1=>?_
   exact Ug e1 h1 x e' h' ρ1 a1 w1 Q aj (df.2.mono f1.grow) DA (hG.mono f1.grow) s1 (hf.right f1) r1 d1 (mW.mono f1.grow) (dZ hn f1.size) λρ2 a2 w2 f2 s2 r2 d2=>hQ ρ2 a2 w2 (f1.trans f2) s2 r2 d2
  .rename_i aL
   refine Nw e h x e' h' ρ a w _ aj df.1 zg hG hs hf he hd mW hn λρ1 a1 w1 f1 s1 r1 d1=>?_
   cases x with
   |normal=>exact (aL e' h' aj).elim
   |exit id=>exact hQ ρ1 a1 w1 f1 s1 r1 d1
   |ret=>exact hQ ρ1 a1 w1 f1 s1 r1 d1
 |cond c c1 c2 Nw Ug =>
  intro e h x e' h' ρ a w Q aj df mc hG hs hf he hd mW hn hQ
  have hc:=he.operand df.1
  have zg:nr=true->mw c1=true:=λq=>by have:=mc q;simp only [mw,dW] at this;exact this.1
  have DA:nr=true->mw c2=true:=λq=>by have:=mc q;simp only [mw,dW] at this;exact this.2
  simp only [dL] at aj
  split at aj
  .rename_i hb
   rw [hb] at hc
   exact wpIn_cond_true (hc.bG rfl) (Nw e h x e' h' ρ a w Q aj df.2.1 zg hG hs hf he hd mW hn hQ)
  .rename_i hb
   rw [hb] at hc
   exact wpIn_cond_false (hc.bG rfl) (Ug e h x e' h' ρ a w Q aj df.2.2 DA hG hs hf he hd mW hn hQ)
  .cases aj
 |block id c ih =>
  intro e h x e' h' ρ a w Q aj df mc hG hs hf he hd mW hn hQ
  simp only [dL] at aj
  refine wpIn_block ?_
  split at aj
  .rename_i i e1 h1 h2
   split at aj
   .rename_i hi
    simp only [dR,cR] at aj
    obtain ⟨rfl,rfl,rfl⟩:=aj
    refine ih e h (.exit i) e1 h1 ρ a w _ h2 df mc hG hs hf he hd mW hn λρ1 a1 w1 f1 s1 r1 d1=>?_
    simp only [Ex.to,Exit.inBlock,aB hi]
    exact hQ ρ1 a1 w1 f1 s1 r1 d1
   .rename_i hi
    simp only [dR,cR] at aj
    obtain ⟨rfl,rfl,rfl⟩:=aj
    refine ih e h (.exit i) e1 h1 ρ a w _ h2 df mc hG hs hf he hd mW hn λρ1 a1 w1 f1 s1 r1 d1=>?_
    simp only [Ex.to,Exit.inBlock,aA hi]
    exact hQ ρ1 a1 w1 f1 s1 r1 d1
  .rename_i aL
   refine ih e h x e' h' ρ a w _ aj df mc hG hs hf he hd mW hn λρ1 a1 w1 f1 s1 r1 d1=>?_
   cases x with
   |normal=>exact hQ ρ1 a1 w1 f1 s1 r1 d1
   |exit i=>exact (aL i e' h' aj).elim
   |ret=>exact hQ ρ1 a1 w1 f1 s1 r1 d1
 |loop c ih =>
  intro e h x e' h' ρ a w Q aj df mc hG hs hf he hd mW hn hQ
  simp only [dL] at aj
  refine wpIn_loop_rounds fuel ?_
  have key:∀ (n:Nat) (e:Env) (h:Heap) (ρ:ct) (a:Act) (w:World),iter (dL P T C D rd fuel c) n e h=some (x,e',h')->cq ρ c->cU gs ρ->bM ρ h w->fj ρ h h'->cd ρ e a.tmps->Marks n0 B nr ρ w a.defers->Ft ρ rd rl->n0<=w.heap.size ->
   (∀ ρ' a' w',Fr ρ ρ' h h' w w'->bM ρ' h' w'->cd ρ' e' a'.tmps->Marks n0 B nr ρ' w' a'.defers->Q x.to a' w')->Code.roundsIn (WR rl) 0 P c Q n a w:=by
   intro n
   induction n with
   |zero=>intro e h ρ a w hi;simp [iter] at hi
   |succ n Uh =>
    intro e h ρ a w hi df hG hs hf he hd mW hn hQ
    simp only [iter] at hi
    rw [roundsIn_succ]
    split at hi
    .rename_i e1 h1 h2
     have dV:=(V3 (Es (P:=P) (T:=T) hg M7 rd fuel c) n _ _ _ _ _ hi).size
     refine ih e h .normal e1 h1 ρ a w _ h2 df mc hG hs (hf.left dV) he hd mW hn λρ1 a1 w1 f1 s1 r1 d1=>?_
     exact Uh e1 h1 ρ1 a1 w1 hi (df.mono f1.grow) (hG.mono f1.grow) s1 (hf.right f1) r1 d1 (mW.mono f1.grow) (dZ hn f1.size) λρ2 a2 w2 f2 s2 r2 d2=>hQ ρ2 a2 w2 (f1.trans f2) s2 r2 d2
    .rename_i aL
     refine ih e h x e' h' ρ a w _ hi df mc hG hs hf he hd mW hn λρ1 a1 w1 f1 s1 r1 d1=>?_
     cases x with
     |normal=>exact (aL e' h' hi).elim
     |exit id=>exact hQ ρ1 a1 w1 f1 s1 r1 d1
     |ret=>exact hQ ρ1 a1 w1 f1 s1 r1 d1
  exact key fuel e h ρ a w aj df hG hs hf he hd mW hn hQ
 |exit id =>
  intro e h x e' h' ρ a w Q aj _ _ _ hs _ he hd _ _ hQ
  simp only [dL,dR,cR] at aj
  obtain ⟨rfl,rfl,rfl⟩:=aj
  exact wpIn_exit (hQ ρ a w (Fr.refl _ _ _) hs he hd)
 |ret =>
  intro e h x e' h' ρ a w Q aj _ _ _ hs _ he hd _ _ hQ
  simp only [dL,dR,cR] at aj
  obtain ⟨rfl,rfl,rfl⟩:=aj
  exact wpIn_ret (hQ ρ a w (Fr.refl _ _ _) hs he hd)
 |label l =>
  intro e h x e' h' ρ a w Q aj _ _ _ hs _ he hd _ _ hQ
  simp only [dL,dR,cR] at aj
  obtain ⟨rfl,rfl,rfl⟩:=aj
  exact wpIn_label (hQ ρ a w (Fr.refl _ _ _) hs he hd)
 |rangeFunc g ps assign body _ _ =>
  intro e h x e' h' ρ a w Q aj df mc hG hs hf he hd mW hn hQ
  simp only [dL] at aj
  have Ji:¬ nr=true:=λq=>by have:=mc q;simp [mw] at this
  have yR:=he.operand df.1
  unfold GY at aj
  split at aj
  .rename_i f first captured tb
   split at aj
   .rename_i AU
    simp only [dW] at AU
    obtain ⟨AU,pD⟩:=AU
    split at aj
    .rename_i r0 h2 nv
     rw [tb] at yR
     generalize Sg:a.eval g=ag at yR
     cases yR with
     |func _ q1 q2 q3 q4 =>
      rename_i fZ dn
      have xE:cz ρ first.toList fZ.toList:=⟨by simpa using q1,λi x y hx hy=>q3 i x y (by simpa using hx) (by simpa using hy)⟩
      have ql:cz ρ captured.toList dn.toList:=⟨by simpa using q2,λi x y hx hy=>q4 i x y (by simpa using hx) (by simpa using hy)⟩
      have kD:=hg _ _ _ _ _ nv
      have pJ:=zeU aj
      have vV:(h.push (.loop e ps.toList assign body .ready none)).size=h.size+1:=rfl
      have DP:=kD.size
      have wq:=pJ.size
      have gy:ρ h.size=none:=hf h.size (aQ _) (by omega)
      refine wpIn_rangeFunc λfn _=>?_
      have eK:∃ (l:Nat) (mark:List Deferred) (w1:World) (lo:Loop),(Instr.enterLoop fn a.tmps ps assign body (WR rl).round).run P w=.ok (l,mark) w1/\w.heap.size<=l/\w1.heap[l]? = some (.loop lo) /\
       lo.state=.ready/\lo.pending=none/\lo.params=ps/\lo.assign=assign/\lo.body=body/\lo.tmps=a.tmps/\(∀ k,k < w.heap.size->w1.heap[k]? = w.heap[k]?)/\w.heap.size<=w1.heap.size/\w1.os=w.os/\w1.tape=w.tape/\w1.output=w.output /\
       (∀ ρ1,(∀ A L,ρ1 A=some L->ρ A=some L\/L.b=l)->Marks n0 B nr ρ1 w1 (mark++a.defers)):=by
       cases rl with
       |none =>
        refine ⟨_,_,_,{ state:=.ready,pending:=none,fn,tmps:=a.tmps,params:=ps,assign,body,defers:=w.heap.size },run_enterLoop_outer fn a.tmps ps assign body,mN _,by rw [World.bK,World.bK,xh,aB (by simp)],rfl,rfl,rfl,rfl,rfl,rfl,?_,by simp [World.bK];omega,rfl,rfl,rfl,?_⟩
        .intro k hk
         rw [World.bK,World.bK,xh,aA (by simp;omega),xh,aA (by omega)]
        .intro ρ1 Bq
         obtain ⟨rs,m1,m2,_,m3⟩:=hd
         refine ⟨w.heap.size::rs,by simp [m1],?_,λq=>(Ji q).elim,?_⟩
         .refine List.nodup_cons.2 ⟨λeL=>?_,m2⟩
          have:=(my.1 (m3 _ eL).2.1).1
          omega
         .intro r hr
          rcases db.1 hr with rfl|hr
          .refine ⟨hn,by simp [World.bK,xh],λA L hA hb=>?_⟩
           rcases Bq A L hA with h4|h4
           .have:=hs.lt h4;omega
           .omega
          .obtain ⟨a1,a2,a3⟩:=m3 r hr
           have bc:r < w.heap.size:=(my.1 a2).1
           refine ⟨a1,?_,λA L hA hb=>?_⟩
           .rw [World.bK,World.bK,xh,aA (by simp;omega),xh,aA (by omega)]
            exact a2
           .rcases Bq A L hA with h4|h4
            .exact a3 A L h4 hb
            .omega
       |some l0 =>
        cases rd with
        |none=>exact mW.elim
        |some A0 =>
         obtain ⟨L0,iX,rfl⟩:=mW
         have TA:∃ lo:Loop,w.heap[L0.b]? = some (.loop lo):=by
          simp only [Ws] at AU
          split at AU
          .rename_i hg0
           obtain ⟨lo,h4,_⟩:=Lh hs iX hg0
           exact ⟨lo,h4⟩
          .cases AU
         obtain ⟨lo,gx⟩:=TA
         have ey:(Instr.enterLoop fn a.tmps ps assign body (some L0.b)).run P w=.ok (w.heap.size,[]) (w.alloc (.loop { state:=.ready,pending:=none,fn,tmps:=a.tmps,params:=ps,assign,body,defers:=lo.defers })):=by
          unfold Instr.enterLoop
          simp only [Sem.run_bind,run_getLoop gx,Sem.run_pure,Result.andThen,run_newObj_alloc]
         refine ⟨_,_,_,{ state:=.ready,pending:=none,fn,tmps:=a.tmps,params:=ps,assign,body,defers:=lo.defers },ey,aQ _,by simp [World.bK],rfl,rfl,rfl,rfl,rfl,rfl,?_,by simp [World.bK],rfl,rfl,rfl,?_⟩
         .intro k hk
          rw [World.bK,xh,aA (by omega)]
         .intro ρ1 Bq
          obtain ⟨rs,m1,m2,_,m3⟩:=hd
          refine ⟨rs,by simp [m1],m2,λq=>(Ji q).elim,?_⟩
          intro r hr
          obtain ⟨a1,a2,a3⟩:=m3 r hr
          have bc:r < w.heap.size:=(my.1 a2).1
          refine ⟨a1,?_,λA L hA hb=>?_⟩
          .rw [World.bK,xh,aA (by omega)]
           exact a2
          .rcases Bq A L hA with h4|h4
           .exact a3 A L h4 hb
           .omega
      obtain ⟨l,mark,w1,lo,eK,hl,ub,l1,l2,l3,l4,l5,l6,hold,dV,vR,jX,gz,Jd⟩:=eK
      obtain ⟨ρ1,Bq,f1,s1⟩:=VH (W:=w1) (L:=⟨l,0,0⟩) (b:=.loop e ps.toList assign body .ready none) hs gy hold dV vR jX gz hl
       (λρ' fC=>⟨lo,ub,l1,l2,by rw [l3],l4,l5,by rw [l6];exact he.mono fC,df.2.1.mono fC,df.2.2.mono fC⟩)
      have gF:Marks n0 B nr ρ1 w1 (mark++a.defers):=Jd ρ1 λA L hA=>by
       cases hρ:ρ A with
       |some L0 =>
        have e:L0=L:=by have:=f1.grow A L0 hρ;rw [hA] at this;exact (Option.some.inj this).symm
        subst e
        exact .inl rfl
       |none =>
        have h4:=(f1.fresh A L hA hρ)
        have h5:A=h.size:=by have:=h4.1;have:=h4.2.1;omega
        subst h5
        rw [Bq] at hA
        cases hA
        exact .inr rfl
      have Dg:fj ρ1 (h.push (.loop e ps.toList assign body .ready none)) h2:=(hf.left wq).right f1
      have ef:cz ρ1 (first.toList++[.func (.yield h.size) #[] #[]]++captured.toList) (fZ++#[Value.func (Fn.yield l) #[] #[]]++dn).toList:=by
       have:=((xE.mono f1.grow).append (cz.cons (VR.yield Bq) (.nil ρ1))).append (ql.mono f1.grow)
       simpa using this
      have jV:(resolve a.eval (rangeCall g l) 0).run P w1=.ok { target:=.fn (.func f) dn,args:=fZ++#[Value.func (Fn.yield l) #[] #[]] } w1:=by
       have hcv:a.eval (.const (.func (.yield l) #[] #[]))=.func (.yield l) #[] #[]:=rfl
       simp [resolve,Sg,hcv,Deferred.ofValue]
      have hinv:∀ w,(invoke (.fn (.func f) dn) (fZ++#[Value.func (Fn.yield l) #[] #[]])).run P w=(callFunc f (fZ++#[Value.func (Fn.yield l) #[] #[]]++dn)).run P w:=λw=>rfl
      rcases hC.fn f _ _ _ _ nv ρ1 w1 (fZ++#[Value.func (Fn.yield l) #[] #[]]++dn) (hG.mono f1.grow) s1 Dg ef with ⟨_,_,_,eX,_⟩|⟨SD,ot⟩
      .exfalso
       unfold Xe at pD
       split at pD
       .rename_i YJ SI
        split at pD
        .rename_i c0 jn
         obtain ⟨hP,iD,_⟩:=hT.fn f YJ SI
         have fD:¬ YJ.name="runtime.NumGoroutine":=by simpa using iD
         simp [callFunc,hP,fD,jn] at eX
        .cases pD
       .cases pD
      .refine ⟨l,mark,w1,_,w1,f,_,w1,eK,jV,λ_ _=>trivial,(hinv w1).trans SD,(λhh=>by cases hh),zlf (ot.mono ?_)⟩
       rintro ed w3 ⟨ρ3,u,rfl,f3,s3,_⟩
       unfold Gd at aj
       split at aj
       .rename_i env ps2 as2 bd2 st fF SO
        have hρ3:ρ3 h.size=some ⟨l,0,0⟩:=f3.grow _ _ Bq
        obtain ⟨D9,g1,g2,g3,_,_,_,_,_,_,g4⟩:=Lh s3 hρ3 SO
        obtain ⟨f4,s4⟩:=g4 .exhausted fF
        have kS:st≠.busy->∀ x1:Ex,x1=x->e=e'->h2.set h.size (.loop env ps2 as2 bd2 .exhausted fF)=h'->(Instr.endLoop l).run P w3=.ok fF (w3.putObj l (.loop { D9 with state:=.exhausted,pending:=fF }))/\Q x.to { a with defers:=mark++a.defers } (w3.putObj l (.loop { D9 with state:=.exhausted,pending:=fF })):=by
         intro cV x1 hx1 yL xy
         subst hx1 yL xy
         have gx:({ D9 with state:=LoopState.exhausted,pending:=fF }:Loop)={ D9 with state:=LoopState.exhausted }:=by
          subst g3;rfl
         refine ⟨?_,hQ ρ3 { a with defers:=mark++a.defers } _ ((f1.trans f3).trans f4) s4 (he.mono (f1.trans f3).grow) ((gF.step f3).step f4)⟩
         rw [gx,<- g3]
         exact run_endLoop g1 (by rw [g2];exact cV)
        split at aj
        .cases aj
        .rename_i cV
         split at aj
         .simp only [dR,cR] at aj
          obtain ⟨rfl,h5,h6⟩:=aj
          obtain ⟨k1,k2⟩:=kS cV _ rfl h5 h6
          exact ⟨none,_,k1,k2⟩
         .simp only [dR,cR] at aj
          obtain ⟨rfl,h5,h6⟩:=aj
          obtain ⟨k1,k2⟩:=kS cV _ rfl h5 h6
          exact ⟨_,_,k1,wpIn_exit k2⟩
         .simp only [dR,cR] at aj
          obtain ⟨rfl,h5,h6⟩:=aj
          obtain ⟨k1,k2⟩:=kS cV _ rfl h5 h6
          exact ⟨_,_,k1,wpIn_ret k2⟩
         .cases aj
       .cases aj
    .cases aj
   .cases aj
  .cases aj
 |scope c ih =>
  intro e h x e' h' ρ a w Q aj df mc hG hs hf he hd mW hn hQ
  simp only [dL] at aj
  refine zgw (ih e h x e' h' ρ a w _ aj df mc hG hs hf he hd mW hn λρ1 a1 w1 f1 s1 r1 d1=>?_)
  have:=hQ ρ1 a1 w1 f1 s1 r1 d1
  cases x <;> exact this
 |goto l=>intro e h x e' h' ρ a w Q aj;simp [dL] at aj
 |refuse s=>intro e h x e' h' ρ a w Q aj;simp [dL] at aj

def Mg (tmps:Array ai):ResultVar->Sem ai
 | .tmp t=>pure (tmps.getD t undef)
 | .cell a t=>do loadVar t (<- asAddr (tmps.getD a undef))

theorem zt6 (fn:Func) (tmps:Array ai):results fn tmps=(do let vs <- fn.results.mapM (Mg tmps);pure (if h:vs.size=1 then vs[0] else .tuple vs)):=by
 unfold results
 congr 2

theorem zmT (hT:T.Fits P) (hs:bM ρ h w) (he:cd ρ e tmps):∀ {r:ResultVar} {v:ai},tE T e h r=some v->∃ u,(Mg tmps r).run P w=.ok u w/\VR ρ v u
 | .tmp t,v,hr=>by simp only [tE,dR] at hr;subst hr;exact ⟨_,rfl,he.2 t⟩
 | .cell a t,v,hr=>by
  simp only [tE] at hr
  have hv:=he.2 a
  simp only [Mg]
  generalize e.get a=x at hv hr
  generalize tmps.getD a undef=y at hv
  obtain ⟨u,h1,h2⟩:=VD hT hs hv hr
  refine ⟨u,?_,h2⟩
  rw [<- h1]
  cases hv <;> first|(simp [hU] at hr;done)|simp [Instr.loadAt,Instr.sureAddr,asAddr]

theorem Vc (hT:T.Fits P) (hs:bM ρ h w) {fn:Func} (he:cd ρ e tmps) (hr:nc T fn e h=some v) :
 ∃ u,(results fn tmps).run P w=.ok u w/\VR ρ v u:=by
 have nA:∀ (rs:List ResultVar) (vs:List ai),rs.mapM (tE T e h)=some vs->∃ us:List ai,cz ρ vs us /\
  (rs.mapM (Mg tmps)).run P w=.ok us w:=by
  intro rs
  induction rs with
  |nil=>intro vs gZ;simp at gZ;subst gZ;exact ⟨[],.nil ρ,by simp⟩
  |cons r rs ih =>
   intro vs gZ
   rw [List.mapM_cons] at gZ
   simp only [Option.bind_eq_bind,cy,Option.pure_def,dR] at gZ
   obtain ⟨v1,xE,UZ,DV,rfl⟩:=gZ
   obtain ⟨u1,h1,h2⟩:=zmT hT hs he xE
   obtain ⟨us,h3,h4⟩:=ih UZ DV
   refine ⟨u1::us,.cons h2 h3,?_⟩
   rw [List.mapM_cons]
   simp only [Sem.run_bind,h1,Result.andThen_ok,h4,Sem.run_pure]
 have cH:∀ us:List ai,(fn.results.toList.mapM (Mg tmps)).run P w=.ok us w ->
  (results fn tmps).run P w=.ok (if h:us.toArray.size=1 then us.toArray[0] else .tuple us.toArray) w:=by
  intro us h1
  rw [zt6,Array.mapM_eq_mapM_toList]
  simp only [Sem.run_bind,Sem.run_map,h1,Result.andThen_ok,Sem.run_pure]
 unfold nc at hr
 split at hr
 .rename_i r DI
  obtain ⟨us,h1,h2⟩:=nA [r] [v] (by simp [hr])
  obtain ⟨u,us',rfl,hu,hn⟩:=h1.of_cons
  have:=hn.of_nil
  subst this
  refine ⟨u,?_,hu⟩
  have:=cH [u] (by rw [DI];exact h2)
  simpa using this
 .rename_i aL
  simp only [cn] at hr
  obtain ⟨vs,gZ,rfl⟩:=hr
  obtain ⟨us,h1,h2⟩:=nA _ vs gZ
  refine ⟨.tuple us.toArray,?_,h1.i0⟩
  have:=cH us h2
  rw [this]
  congr 1
  have hlen:us.length≠1:=by
   intro cF
   have hl:fn.results.toList.length=us.length:=by
    have e1:vs.length=us.length:=h1.1
    have e2:∀ (rs:List ResultVar) (vs:List ai),rs.mapM (tE T e h)=some vs->rs.length=vs.length:=by
     intro rs
     induction rs with
     |nil=>intro vs gZ;simp at gZ;subst gZ;rfl
     |cons r rs ih =>
      intro vs gZ
      rw [List.mapM_cons] at gZ
      simp only [Option.bind_eq_bind,cy,Option.pure_def,dR] at gZ
      obtain ⟨v1,xE,UZ,DV,rfl⟩:=gZ
      simp [ih UZ DV]
    rw [e2 _ _ gZ,e1]
   rw [cF] at hl
   match hm:fn.results.toList,hl with
   | [r],_=>exact aL r hm
  rw [dif_neg (by simpa using hlen)]
end
end Go.Am
