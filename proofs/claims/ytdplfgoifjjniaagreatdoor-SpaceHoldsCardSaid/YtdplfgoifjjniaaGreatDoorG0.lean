/- The plain machine: a deterministic evaluator of the model's code over a heap of its own. Definitions alone; no condition. -/
import GoSem.Step
import Derived.Calls
import Derived.Below
import Derived.Laws.AppendOwn
import Derived.Laws.MakeOwn
import Derived.Laws.CopyRow
import Derived.Deep.MidRow
import Derived.Lib.Space
import Derived.Laws.StructEq
import Derived.ChangeKeysEq
import Derived.RangeFuncRecord
import Derived.Laws.BytesArg
import Derived.Lib.ConvBytes
import Derived.CallsIn
import Derived.TacticsIn
import Derived.LoopNIn
import Derived.Scope
import Derived.RangeFuncLeaves
namespace Go.Am

inductive bh where
 |row (cells:List Value) (elem:TypeId) (ro:Bool)
 |map (es:List MapEntry) (clock:Nat)
 |loop (env:List Value) (ps:List Tmp) (assign body:Code) (st:LoopState) (dt:Option Code)
 |dead

inductive Tr where
 |nil
 |node (v:Option bh) (l r:Tr)

def Tr.get:Tr→Nat→Option bh
 | .nil,_=>none
 | .node v l r,i=>match i with
  |0=>v
  |i+1=>if i % 2 == 0 then l.get (i / 2) else r.get (i / 2)

def Tr.set:Nat→Tr→Nat→bh→Tr
 |0,t,_,_=>t
 |n+1,t,i,o =>
  match t with
  | .nil=>match i with
   |0=>.node (some o) .nil .nil
   |i+1=>if i % 2 == 0 then .node none (Tr.set n .nil (i / 2) o) .nil else .node none .nil (Tr.set n .nil (i / 2) o)
  | .node v l r=>match i with
   |0=>.node (some o) l r
   |i+1=>if i % 2 == 0 then .node v (Tr.set n l (i / 2) o) r else .node v l (Tr.set n r (i / 2) o)

structure Heap where
 size:Nat
 tr:Tr
 low:Nat

def Heap.get (h:Heap) (A:Nat):Option bh:=if A < h.size then h.tr.get A else none
def Heap.push (h:Heap) (b:bh):Heap:={ h with size:=h.size+1,tr:=h.tr.set (h.size+1) h.size b }
def Heap.set (h:Heap) (A:Nat) (b:bh):Heap:={ h with tr:=h.tr.set (A+1) A b,low:=min h.low A }
def Heap.empty:Heap:=⟨0,.nil,0⟩

def G:Nat:=18446744073709551616

abbrev Env:=List Value
def Env.get:Env→Nat→Value
 | [],_=>undef
 |v::_,0=>v
 |_::r,n+1=>Env.get r n
def Env.set:Env→Nat→Value→Env
 | [],_,_=>[]
 |_::r,0,v=>v::r
 |x::r,n+1,v=>x::Env.set r n v

def kO:Value→Bool
 | .bool _ | .int _ _ | .string _ | .nilFunc | .nilIface=>true
 | .pointer none | .map none=>true
 | .slice none n c=>n == 0 && c == 0
 | .func (.func _) f c=>f.isEmpty && c.isEmpty
 |_=>false
def plain:Value→Bool
 | .agg cs=>cs.toList.all kO
 |v=>kO v
def one:Value→Bool
 | .agg _ | .tuple _=>false
 |_=>true

def gF {α:Type} (P:Program):Sem α→Option α
 | .pure a=>some a
 | .program k=>gF P (k P)
 | .mark _ k=>gF P k
 |_=>none

structure bD where
 desc:TypeId→Option TypeDesc
 /-- cells, bytes, the cells of the zero value -/
 info:TypeId→Option (Nat × Nat × List Value)
 fn:FuncId→Option Func
 /-- a type whose values are compared part by part -/
 cmp:TypeId→Bool
 /-- the zero value -/
 zero:TypeId→Option Value
 /-- the package's variables that the texts may name -/
 gs:List Nat
 /-- a type's method -/
 uX:TypeId→String→Option Method
 /-- a function that defers one call, once, on its way -/
 Cu:FuncId→Bool

section
variable (P:Program) (T:bD)

def bO (t:TypeId):Option Nat:=(T.info t).map (·.1)
def aq (t:TypeId):Option Bool:=(T.desc t).map fun
 | .struct _ | .array _ _=>true
 |_=>false

def cut (cs:List Value) (o n:Nat):Option (List Value):=if o+n≤cs.length then some ((cs.drop o).take n) else none
def ay (cs:List Value) (o:Nat) (vs:List Value):List Value:=cs.take o++vs++cs.drop (o+vs.length)

def gL (A o n:Nat) (h:Heap):Option (List Value) :=
 match h.get A with
 |some (.row cs _ _)=>cut cs o n
 |_=>none

def dz (t:TypeId) (x:Value) (h:Heap):Option Value :=
 match x with
 | .pointer (some ⟨A,o,none⟩) =>
  (aq T t).bind fun g =>
   if g then (bO T t).bind fun n=>(gL A o n h).map fun l=>.agg l.toArray
   else (gL A o 1 h).bind fun l=>l[0]?
 |_=>none

def kW (A o:Nat) (vs:List Value) (h:Heap):Option Heap :=
 match h.get A with
 |some (.row cs e false)=>if o+vs.length≤cs.length && vs.all one then some (h.set A (.row (ay cs o vs) e false)) else none
 |_=>none

def gA (t:TypeId) (x v:Value) (h:Heap):Option Heap :=
 match x with
 | .pointer (some ⟨A,o,none⟩)=>(bO T t).bind fun n=>if v.cells.size=n then kW A o v.cells.toList h else none
 |_=>none

def newRow (e:TypeId) (cs:List Value) (h:Heap):Value × Heap:=(.pointer (some ⟨h.size,0,none⟩),h.push (.row cs e false))

def lU (x:Value) (k:Nat) (h:Heap):Option (List Value) :=
 match x with
 | .slice (some ⟨A,o,none⟩) n _=>if n*k=0 then some [] else gL A o (n*k) h
 | .slice none 0 _=>some []
 |_=>none

def fI (x:Value) (k:Nat) (h:Heap):Option (Nat × List Value) :=
 match x with
 | .string b=>if k=1 then some (b.size,b.data.toList.map fun u=>Value.int .u8 u.toNat) else none
 | .slice _ m _=>(lU x k h).map fun l=>(m,l)
 |_=>none

def il (t:TypeId) (s x:Value) (h:Heap):Option (Value × Heap) :=
 match T.desc t with
 |some (.slice e)=>(T.info e).bind fun (k,bytes,_) =>
  (fI x k h).bind fun (m,news) =>
  match s with
  | .slice base n c =>
   if m=0 then some (s,h) else
   if k=0 || (n+m)*bytes > 140737488355328 || n+m > 1152921504606846976 || !news.all one then none else
   if n+m≤c % G then
    match base with
    |some ⟨A,o,none⟩=>if c < G || c / G=k then (kW A (o+n*k) news h).map fun h'=>(.slice base (n+m) c,h') else none
    |_=>none
   else
    (lU s k h).bind fun en =>
    if c < G then some (.slice (some ⟨h.size,0,none⟩) (n+m) (G*k+(n+m)),h.push (.row (en++news) e false))
    else match base with
     |some ⟨A,_,none⟩=>match h.get A with
      |some (.row _ e' false) =>
       if e'=e && c / G=k then some (.slice (some ⟨h.size,0,none⟩) (n+m) (G*k+(n+m)),(h.set A .dead).push (.row (en++news) e false)) else none
      |_=>none
     |_=>none
  |_=>none
 |_=>none

def vA (x:Value) (hi:Nat):Option Nat :=
 match x with
 | .int _ i=>if 0≤i∧i≤hi then some i.toNat else none
 |_=>none

def pF (len cap:Nat) (l h m:Option Value):Option (Nat × Nat × Nat) :=
 (match m with|some v=>vA v cap|none=>some cap).bind fun m' =>
 (match h,m with|some v,_=>vA v m'|none,none=>some len|none,some _=>none).bind fun h' =>
 (match l with|some v=>vA v h'|none=>some 0).bind fun l'=>some (l',h',m')

def kf (t:TypeId) (x:Value) (l h m:Option Value):Option Value :=
 match T.desc t,x with
 |some .string,.string s=>if m.isSome then none else (pF s.size s.size l h none).map fun (l',h',_)=>.string (s.extract l' h')
 |some (.array n e),.pointer (some ⟨A,o,none⟩) =>
  (if n < G then pF n n l h m else none).bind fun (l',h',m')=>(bO T e).map fun k=>.slice (some ⟨A,if m'=l' then o else o+l'*k,none⟩) (h' - l') (m' - l')
 |some (.slice e),.slice a n c =>
  (bO T e).bind fun k =>
  if c < G then
   (pF n c l h m).bind fun (l',h',m')=>match a with
    |some ⟨A,o,none⟩=>some (.slice (some ⟨A,if m'=l' then o else o+l'*k,none⟩) (h' - l') (m' - l'))
    |none=>some (.slice none (h' - l') (m' - l'))
    |_=>none
  else match a with
   |some ⟨A,o,none⟩ =>
    if c / G=k then
     (pF n (c % G) l h m).map fun (l',h',m')=>match m with
      |some _=>.slice (some ⟨A,if m'=l' then o else o+l'*k,none⟩) (h' - l') (m' - l')
      |none=>.slice (some ⟨A,o+l'*k,none⟩) (h' - l') (G*k+(m' - l'))
    else none
   |_=>none
 |_,_=>none

def fM (t:TypeId) (x i:Value):Option Value :=
 match i with
 | .int _ i=>match T.desc t,x with
  |some (.array n e),.pointer (some ⟨A,o,none⟩)=>if 0≤i∧i < n then (bO T e).map fun k=>.pointer (some ⟨A,o+i.toNat*k,none⟩) else none
  |some (.slice e),.slice (some ⟨A,o,none⟩) n _=>if 0≤i∧i < n then (bO T e).map fun k=>.pointer (some ⟨A,o+i.toNat*k,none⟩) else none
  |_,_=>none
 |_=>none

def cV (s:TypeId) (x:Value) (f:Nat):Option Value :=
 match T.desc s,x with
 |some (.struct fs),.pointer (some ⟨A,o,none⟩) =>
  (fs[f]?).bind fun f=>(bO T f.type).bind fun n=>if n=0 then none else some (.pointer (some ⟨A,o+f.offset,none⟩))
 |_,_=>none

def aP (t:TypeId) (cs:List Value) (o:Nat):Option Value :=
 (aq T t).bind fun g=>if g then (bO T t).bind fun n=>(cut cs o n).map fun l=>.agg l.toArray else cs[o]?

def BC (t:TypeId) (x:Value) (f:Nat):Option Value :=
 match T.desc t,x with
 |some (.struct fs),.agg cs=>(fs[f]?).bind fun f=>aP T f.type cs.toList f.offset
 |_,_=>none

def zN (E:TypeId→Value→Value→Option Bool) (xs ys:List Value):List (TypeId × Nat)→Option Bool
 | []=>some true
 |(t,o)::r=>(aP T t xs o).bind fun a=>(aP T t ys o).bind fun b=>(E t a b).bind fun c=>if c then zN E xs ys r else some false
def F9:List Field→Option (List (TypeId × Nat))
 | []=>some []
 |f::fs=>if f.name="_" then none else (F9 fs).map fun r=>(f.type,f.offset)::r
def Gg (e:TypeId) (k:Nat):Nat→Nat→List (TypeId × Nat)
 |0,_=>[]
 |n+1,i=>(e,i*k)::Gg e k n (i+1)
def eU:Nat→TypeId→Value→Value→Option Bool
 |0,_,_,_=>none
 |d+1,t,x,y=>match T.desc t,x,y with
  |some .bool,.bool a,.bool b=>some (a == b)
  |some (.int _),.int k a,.int k' b=>if k=k' then some (a == b) else none
  |some .string,.string a,.string b=>some (a.data.toList == b.data.toList)
  |some (.struct fs),.agg xs,.agg ys=>if T.cmp t then (F9 fs.toList).bind fun ps=>zN T (eU d) xs.toList ys.toList ps else none
  |some (.array n e),.agg xs,.agg ys=>(bO T e).bind fun k=>zN T (eU d) xs.toList ys.toList (Gg e k n 0)
  |_,_,_=>none

def lI (place:Nat→Option (Nat × Nat)) (cells:List Value):List (Nat × Value)→Option (List Value)
 | []=>some cells
 |(i,v)::rest=>(place i).bind fun (o,n) =>
  if v.cells.size=n∧o+n≤cells.length then lI place (ay cells o v.cells.toList) rest else none

def Mw:List Field→Option (List (Nat × Nat))
 | []=>some []
 |f::fs=>(bO T f.type).bind fun n=>(Mw fs).map fun r=>(f.offset,n)::r

def nR (t:TypeId) (parts:List (Nat × Value)):Option Value :=
 (T.info t).bind fun (_,_,z) =>
 match T.desc t with
 |some (.struct fs)=>(Mw T fs.toList).bind fun places=>(lI (fun k=>places[k]?) z parts).map fun cs=>.agg cs.toArray
 |some (.array _ e)=>(bO T e).bind fun k=>(lI (fun i=>some (i*k,k)) z parts).map fun cs=>.agg cs.toArray
 |_=>none

def jo (z:List Value) (n:Nat):List Value:=(List.replicate n z).flatten

def lQ (t:TypeId) (len:Nat) (parts:List (Nat × Value)) (h:Heap):Option (Value × Heap) :=
 match T.desc t with
 |some (.slice e)=>(T.info e).bind fun (k,_,z) =>
  if len*k > 16777216 || len > 16777216 then none else
  (lI (fun i=>some (i*k,k)) (jo z len) parts).map fun cs=>(.slice (some ⟨h.size,0,none⟩) len len,h.push (.row cs e false))
 |_=>none

def Ek (t:TypeId) (l c:Value) (h:Heap):Option (Value × Heap) :=
 match T.desc t,l,c with
 |some (.slice e),.int _ l,.int _ c=>(T.info e).bind fun (_,bytes,z) =>
  if 0≤l∧l≤c∧c≤1152921504606846976∧c*bytes≤140737488355328 then
   some (.slice (some ⟨h.size,0,none⟩) l.toNat c.toNat,h.push (.row (jo z c.toNat) e false))
  else none
 |_,_,_=>none

def Fa (t:TypeId) (d s:Value) (h:Heap):Option (Value × Heap) :=
 match T.desc t,d with
 |some (.slice e),.slice a n _=>(bO T e).bind fun k =>
  (fI s k h).bind fun (m,src) =>
  if min m n=0 then some (.int .i64 0,h) else
  match a with
  |some ⟨A,o,none⟩=>(kW A o (src.take (min m n*k)) h).map fun h'=>(.int .i64 (min m n:Nat),h')
  |_=>none
 |_,_=>none

def nP (t:TypeId) (x:Value) (h:Heap):Option Heap :=
 match T.desc t,x with
 |some (.slice e),.slice a n _ =>
  if n=0 then some h else
  (T.info e).bind fun (_,_,z) =>
  match a with
  |some ⟨A,o,none⟩=>kW A o (jo z n) h
  |_=>none
 |_,_=>none

def BM (d:TypeDesc) (x y:Value):Option Bool :=
 match d,x,y with
 | .pointer _,.pointer none,.pointer b=>some b.isNone
 | .pointer _,.pointer (some _),.pointer none=>some false
 | .slice _,.slice none _ _,.slice b _ _=>some b.isNone
 | .slice _,.slice (some _) _ _,.slice none _ _=>some false
 | .map _ _,.map none,.map b=>some b.isNone
 | .map _ _,.map (some _),.map none=>some false
 | .func _ _ _,.nilFunc,.nilFunc=>some true
 | .func _ _ _,.nilFunc,.func _ _ _=>some false
 | .func _ _ _,.func _ _ _,.nilFunc=>some false
 |_,_,_=>none

def pE (op:BinOp) (x y:Value):Option Value :=
 match op,x,y with
 | .add,.int k a,.int k' b=>if k=k' then some (.int k (k.wrap (a+b))) else none
 | .sub,.int k a,.int k' b=>if k=k' then some (.int k (k.wrap (a - b))) else none
 | .eql,.int k a,.int k' b=>if k=k' then some (.bool (a == b)) else none
 | .neq,.int k a,.int k' b=>if k=k' then some (.bool (a != b)) else none
 | .lss,.int k a,.int k' b=>if k=k' then some (.bool (a < b)) else none
 | .leq,.int k a,.int k' b=>if k=k' then some (.bool (a≤b)) else none
 | .gtr,.int k a,.int k' b=>if k=k' then some (.bool (a > b)) else none
 | .geq,.int k a,.int k' b=>if k=k' then some (.bool (a ≥ b)) else none
 |_,_,_=>none

def bU (op:BinOp) (t:TypeId) (x y:Value):Option Value :=
 match pE op x y with
 |some v=>some v
 |none =>
  match (T.desc t).bind fun d=>BM d x y with
  |some b=>(match op with | .eql=>some (.bool b) | .neq=>some (.bool !b)|_=>none)
  |none =>
   if plain x && plain y then
    match x,y with
    | .nilIface,_=>none
    | .agg _,.agg _=>if T.cmp t then (match op with
     | .eql=>(eU T 20 t x y).map fun b=>.bool b
     | .neq=>(eU T 20 t x y).map fun b=>.bool !b
     |_=>none) else none
    |_,_=>(gF P (binOp op t x y)).bind fun v=>if plain v then some v else none
   else none

def bd (t:TypeId) (x:Value) (h:Heap):Option Value :=
 match T.desc t,x with
 |some .string,.string s=>some (.int .i64 s.size)
 |some (.slice _),.slice _ n _=>some (.int .i64 n)
 |some (.map _ _),.map none=>some (.int .i64 0)
 |some (.map _ _),.map (some A)=>(match h.get A with
  |some (.map es _)=>some (.int .i64 es.length)
  |_=>none)
 |_,_=>none

/-! ### Maps: keys without an address, held against each other part by part -/
def Fe:Value→Value→Bool
 | .bool a,.bool b=>a == b
 | .int j a,.int k b=>decide (j=k) && a == b
 | .string a,.string b=>a.data.toList == b.data.toList
 |_,_=>false
def Gy:List Value→List Value→Bool
 | [],[]=>true
 |x::xs,y::ys=>Fe x y && Gy xs ys
 |_,_=>false
def EG:Value→Value→Bool
 | .agg a,.agg b=>Gy a.toList b.toList
 |x,y=>Fe x y
def sq (kt:TypeId) (k:Value):Bool:=if plain k then (match eU T 20 kt k k with|some b=>b|none=>false) else false
def oc (kt:TypeId) (k:Value):List MapEntry→Nat→Option (Option (Nat × Value))
 | [],_=>some none
 |e::es,i=>(eU T 20 kt k e.key).bind fun b=>if b then some (some (i,e.val)) else oc kt k es (i+1)
def M7 (x:Value) (h:Heap):Option (List MapEntry) :=
 match x with
 | .map none=>some []
 | .map (some A)=>(match h.get A with|some (.map es _)=>some es|_=>none)
 |_=>none
def vt (t:TypeId) (x k:Value) (ok:Bool) (h:Heap):Option Value :=
 match T.desc t with
 |some (.map kt et) =>
  if sq T kt k then
   (M7 x h).bind fun es=>(oc T kt k es 0).bind fun r=>(match r with
    |some (_,v)=>some (v,true)
    |none=>(T.zero et).map fun z=>(z,false)).map fun (v,b)=>if ok then .tuple #[v,.bool b] else v
  else none
 |_=>none
def mS (t:TypeId) (x k v:Value) (h:Heap):Option Heap :=
 match T.desc t,x with
 |some (.map kt _),.map (some A)=>(match h.get A with
  |some (.map es clock) =>
   if sq T kt k then
    (oc T kt k es 0).bind fun r=>match r with
     |some (i,_)=>(es[i]?).bind fun e=>if EG e.key k then some (h.set A (.map (es.modify i fun e=>{ e with key:=k,val:=v }) clock)) else none
     |none=>some (h.set A (.map (es++[{ key:=k,val:=v,born:=clock }]) (clock+1)))
   else none
  |_=>none)
 |_,_=>none

def aZ (e:Env):Operand→Value
 | .tmp t=>e.get t
 | .const v=>v
 | .global g=>.pointer (some ⟨g,0,none⟩)
 | .func f=>.func (.func f) #[] #[]

def sY (t:TypeId) (x k:Value) (h:Heap):Option Heap :=
 match T.desc t,x with
 |some (.map kt _),.map none=>if sq T kt k then some h else none
 |some (.map kt _),.map (some A)=>(match h.get A with
  |some (.map es clock) =>
   if sq T kt k then
    (oc T kt k es 0).bind fun r=>match r with
     |some (i,_)=>some (h.set A (.map (es.eraseIdx i) clock))
     |none=>some (h.set A (.map es clock))
   else none
  |_=>none)
 |_,_=>none

def wo (t:TypeId) (x k:Value) (h:Heap):Option (Value × Heap) :=
 match T.desc t,x with
 |some (.map kt et),.map (some A)=>(match h.get A with
  |some (.map es clock) =>
   if sq T kt k then
    (oc T kt k es 0).bind fun r=>match r with
     |some (i,v)=>(es[i]?).bind fun e=>if EG e.key k then some (.tuple #[v,.int .i64 e.born],h.set A (.map (es.modify i fun e=>{ e with key:=k }) clock)) else none
     |none=>(T.zero et).map fun z=>(.tuple #[z,.int .i64 clock],h.set A (.map (es++[{ key:=k,val:=z,born:=clock }]) (clock+1)))
   else none
  |_=>none)
 |_,_=>none
def GD (s:Int):List MapEntry→Nat→Option Nat
 | [],_=>none
 |e::es,i=>if (e.born:Int)=s then some i else GD s es (i+1)
def sd (x s v:Value) (h:Heap):Option Heap :=
 match x,s with
 | .map (some A),.int _ b=>(match h.get A with
  |some (.map es clock)=>(GD b es 0).map fun i=>h.set A (.map (es.modify i fun e=>{ e with val:=v }) clock)
  |_=>none)
 |_,_=>none

/-! ### Interfaces -/
def BD (t:TypeId) (x:Value):Option Value:=match T.desc t with
 |some (.interface _)=>none
 |some _=>some (.iface t x)
 |none=>none
def EC (x:Value) (asserted:TypeId) (ok:Bool):Option Value:=match T.desc asserted with
 |some (.interface _)=>none
 |some _=>(match x with
  | .iface t v=>if t=asserted then some (if ok then .tuple #[v,.bool true] else v) else if ok then (T.zero asserted).map fun z=>.tuple #[z,.bool false] else none
  | .nilIface=>if ok then (T.zero asserted).map fun z=>.tuple #[z,.bool false] else none
  |_=>none)
 |none=>none
inductive fN where
 |val (v:Value)
 |var (p:Value)
def fN.get (t:TypeId) (h:Heap):fN→Option Value
 | .val v=>some v
 | .var p=>dz T t p h
def Gv (h:Heap):List FieldStep→TypeId→fN→Option (TypeId × fN)
 | [],t,x=>some (t,x)
 |s::rest,t,x=>match T.desc s.struct with
  |some (.struct fs)=>(fs[s.index]?).bind fun f =>
   if s.deref then (x.get T t h).bind fun p=>(cV T s.struct p s.index).bind fun q=>Gv h rest f.type (.var q)
   else match x with
    | .var p=>(cV T s.struct p s.index).bind fun q=>Gv h rest f.type (.var q)
    | .val (.agg cs)=>(aP T f.type cs.toList f.offset).bind fun v=>Gv h rest f.type (.val v)
    |_=>none
  |_=>none
def Zp (xt:TypeId) (x:fN) (ptr:Bool) (h:Heap):Option Value :=
 match T.desc xt,ptr,x with
 |some (.pointer _),true,x=>x.get T xt h
 |some (.pointer elem),false,x=>(x.get T xt h).bind fun p=>dz T elem p h
 |some _,true,.var p=>(match p with | .pointer (some a)=>some (.pointer (some a))|_=>none)
 |some _,false,x=>x.get T xt h
 |_,_,_=>none
def rf (t:TypeId) (v:Value) (name:String) (h:Heap):Option (FuncId × Value) :=
 (T.uX t name).bind fun m=>(Gv T h m.path.toList t (.val v)).bind fun (xt,x)=>match m.func with
  |some (f,ptr)=>(Zp T xt x ptr h).map fun r=>(f,r)
  |none=>none

/-! ### Bytes -/
def MW:List Value→Option (List UInt8)
 | []=>some []
 | .int .u8 n::l=>(MW l).map (UInt8.ofNat n.toNat::·)
 |_=>none
def Gr (s d:TypeId) (x:Value) (h:Heap):Option Value :=
 match T.desc s,T.desc d,x with
 |some (.slice e),some .string,.slice _ _ _=>(match T.desc e with
  |some (.int .u8)=>(lU x 1 h).bind fun l=>(MW l).map fun bs=>.string ⟨bs.toArray⟩
  |_=>none)
 |_,_,_=>none
def Bp (d:TypeId) (x:Value) (h:Heap):Option (Value × Heap) :=
 match T.desc d,x with
 |some (.slice e),.string b=>(match T.desc e,T.info e with
  |some (.int .u8),some (1,_,_)=>if b.size > 1152921504606846976∨e≠5 then none else some (.slice (some ⟨h.size,0,none⟩) b.size (G*1+b.size),h.push (.row (b.data.toList.map fun u=>Value.int .u8 u.toNat) e false))
  |_,_=>none)
 |_,_=>none
def Gm (t:TypeId):Bool:=match T.desc t with
 |some .string=>true
 |_=>false
def n6 (t:TypeId):Bool:=match T.desc t with
 |some (.slice _)=>true
 |_=>false
def tF (t:TypeId) (x:Value):Option Value :=
 match T.desc t,x with
 |some (.slice _),.slice _ _ c=>if c < G then some (.int .i64 c) else none
 |_,_=>none

def gi (e:Env) (o:Oper) (h:Heap):Option (Value × Heap) :=
 if o.op.operands.toList.all fun x=>plain (aZ e x) then
  match gF P (execOp (aZ e) o) with
  |some (.value v)=>if plain v then some (v,h) else none
  |_=>none
 else none

def rm (t u:TypeId):Bool:=u == t || (match T.desc u with|some .string|some (.slice _)=>true|_=>false)

variable (C:Fn→List Value→Heap→Option (Value × Heap))

def gM (e:Env) (o:Oper) (h:Heap):Option (Value × Heap) :=
 let v:=aZ e
 match o.op with
 | .move x=>some (v x,h)
 | .assign x=>some (v x,h)
 | .pick c a b=>match v c with | .bool t=>some (if t then v a else v b,h)|_=>none
 | .alloc t=>(T.info t).map fun (_,_,z)=>newRow t z h
 | .box t x=>some (newRow t (v x).cells.toList h)
 | .build t ps=>(nR T t (ps.toList.map fun (i,x)=>(i,v x))).map fun r=>(r,h)
 | .buildSlice t n ps=>lQ T t n (ps.toList.map fun (i,x)=>(i,v x)) h
 | .load t a=>(dz T t (v a) h).map fun r=>(r,h)
 | .store t a x=>(gA T t (v a) (v x) h).map fun h'=>(undef,h')
 | .nilCheck x=>match v x with
  | .pointer (some a)=>some (.pointer (some a),h)
  | .func (.func f) a b=>some (.func (.func f) a b,h)
  | .iface t a=>some (.iface t a,h)
  |_=>none
 | .binOp op t x y _=>(bU P T op t (v x) (v y)).map fun r=>(r,h)
 | .makeFunc fn first captured=>match fn with | .func f=>some (.func (.func f) (first.map v) (captured.map v),h)|_=>none
 | .makeSlice t l c=>Ek T t (v l) (v c) h
 | .slice t x l hi m=>(kf T t (v x) (l.map v) (hi.map v) (m.map v)).map fun r=>(r,h)
 | .fieldAddr s x f=>(cV T s (v x) f).map fun r=>(r,h)
 | .field t x f=>(BC T t (v x) f).map fun r=>(r,h)
 | .indexAddr t x i=>(fM T t (v x) (v i)).map fun r=>(r,h)
 | .extract t i=>match v t with | .tuple vs=>(vs[i]?).map fun r=>(r,h)|_=>none
 | .unOp _ _ _=>gi P e o h
 | .convert s d x=>if n6 T s then (Gr T s d (v x) h).map fun r=>(r,h) else if n6 T d then (if Gm T s then Bp T d (v x) h else none) else gi P e o h
 | .index _ _ _=>gi P e o h
 | .call c=>match c.callee with
  | .builtin .append=>match c.argTypes.toList,c.args.toList with
   | [t,u],[s,x]=>if rm T t u then il T t (v s) (v x) h else none
   |_,_=>none
  | .builtin .copy=>match c.argTypes.toList,c.args.toList with
   | [t,_],[d,s]=>Fa T t (v d) (v s) h
   |_,_=>none
  | .builtin .clear=>match c.argTypes.toList,c.args.toList with
   | [t],[x]=>(nP T t (v x) h).map fun h'=>(undef,h')
   |_,_=>none
  | .builtin .len=>match c.argTypes.toList,c.args.toList with
   |t::_,[x]=>(bd T t (v x) h).map fun r=>(r,h)
   |_,_=>none
  | .builtin .min=>gi P e o h
  | .builtin .max=>gi P e o h
  | .builtin .delete=>match c.argTypes.toList,c.args.toList with
   |t::_,[m,k]=>(sY T t (v m) (v k) h).map fun h'=>(undef,h')
   |_,_=>none
  | .builtin .cap=>match c.argTypes.toList,c.args.toList with
   |t::_,[x]=>(tF T t (v x)).map fun r=>(r,h)
   |_,_=>none
  | .invoke r name=>match v r with
   | .iface t x=>(rf T t x name h).bind fun (f,y)=>C (.func f) (y::c.args.toList.map v) h
   |_=>none
  | .value f=>match v f with
   | .func (.func f) first captured=>C (.func f) (first.toList++c.args.toList.map v++captured.toList) h
   | .func (.yield A) first captured=>if first.isEmpty && captured.isEmpty then C (.yield A) (c.args.toList.map v) h else none
   |_=>none
  |_=>none
 | .makeMap t r=>match r with
  |none=>some (.map (some h.size),h.push (.map [] 0))
  |some x=>(match T.desc t,v x with
   |some (.map _ _),.int _ _=>some (.map (some h.size),h.push (.map [] 0))
   |_,_=>none)
 | .lookup t x k ok=>(vt T t (v x) (v k) ok h).map fun r=>(r,h)
 | .mapUpdate t m k x=>(mS T t (v m) (v k) (v x) h).map fun h'=>(undef,h')
 | .insert t m k x=>(mS T t (v m) (v k) (v x) h).map fun h'=>(undef,h')
 | .mapEntry t m k=>wo T t (v m) (v k) h
 | .entryStore _ m s x=>(sd (v m) (v s) (v x) h).map fun h'=>(undef,h')
 | .makeInterface t x=>(BD T t (v x)).map fun r=>(r,h)
 | .typeAssert x _ t ok=>(EC T (v x) t ok).map fun r=>(r,h)
 |_=>none

def kP (ops:Array Oper) (o:Oper) (e:Env):Bool :=
 match o.guard with
 |none=>true
 |some (j,b)=>match (ops[j]?).bind (·.dst) with
  |some t=>(match e.get t with | .bool c=>c == b|_=>false)
  |none=>false

def put (e:Env) (d:Option Tmp) (v:Value):Env:=match d with
 |some d=>e.set d v
 |none=>e

def qu (ops:Array Oper):List Oper→Env→Heap→Option (Env × Heap)
 | [],e,h=>some (e,h)
 |o::rest,e,h =>
  if kP ops o e then
   match gM P T C e o h with
   |some (v,h')=>qu ops rest (put e o.dst v) h'
   |none=>none
  else qu ops rest (put e o.dst undef) h

inductive Ex where
 |normal
 |exit (id:Nat)
 |ret

def iter (f:Env→Heap→Option (Ex × Env × Heap)):Nat→Env→Heap→Option (Ex × Env × Heap)
 |0,_,_=>none
 |n+1,e,h=>match f e h with
  |some (.normal,e',h')=>iter f n e' h'
  |r=>r

variable (D:Array Oper→Env→Heap→Option (Env × Heap))

def O6 (rd:Option Nat) (h:Heap):Bool:=match rd with
 |none=>true
 |some A=>(match h.get A with|some (.loop ..)=>true|_=>false)
def Bj (l:Nat) (e:Env) (h:Heap):Option (Ex × Env × Heap) :=
 match h.get l with
 |some (.loop env ps assign body st dt)=>(match st with
  | .busy=>none
  |_=>(match dt with
   |none=>some (.normal,e,h.set l (.loop env ps assign body .exhausted dt))
   |some (.exit id)=>some (.exit id,e,h.set l (.loop env ps assign body .exhausted dt))
   |some .ret=>some (.ret,e,h.set l (.loop env ps assign body .exhausted dt))
   |_=>none))
 |_=>none
def Pn (f:FuncId):Bool:=match T.fn f with
 |some fn=>(match fn.body with|some _=>true|none=>false)
 |none=>false
def GA (rd:Option Nat) (g:Value) (ps:List Tmp) (assign body:Code) (e:Env) (h:Heap):Option (Ex × Env × Heap) :=
 match g with
 | .func (.func f) first captured =>
  if O6 rd h && Pn T f then
   match C (.func f) (first.toList++[.func (.yield h.size) #[] #[]]++captured.toList) (h.push (.loop e ps assign body .ready none)) with
   |some (_,h2)=>Bj h.size e h2
   |none=>none
  else none
 |_=>none

def dx (rd:Option Nat) (fuel:Nat):Code→Env→Heap→Option (Ex × Env × Heap)
 | .skip,e,h=>some (.normal,e,h)
 | .region _ ops d,e,h=>(if d then D ops e h else qu P T C ops ops.toList e h).map fun (e',h')=>(.normal,e',h')
 | .seq a b,e,h=>match dx rd fuel a e h with
  |some (.normal,e',h')=>dx rd fuel b e' h'
  |r=>r
 | .cond c a b,e,h=>match aZ e c with
  | .bool true=>dx rd fuel a e h
  | .bool false=>dx rd fuel b e h
  |_=>none
 | .block id c,e,h=>match dx rd fuel c e h with
  |some (.exit i,e',h')=>if i=id then some (.normal,e',h') else some (.exit i,e',h')
  |r=>r
 | .loop c,e,h=>iter (dx rd fuel c) fuel e h
 | .scope c,e,h=>dx rd fuel c e h
 | .rangeFunc g ps assign body,e,h=>GA T C rd (aZ e g) ps.toList assign body e h
 | .exit id,e,h=>some (.exit id,e,h)
 | .ret,e,h=>some (.ret,e,h)
 | .label _,e,h=>some (.normal,e,h)
 |_,_,_=>none

def rh (e:Env) (h:Heap):ResultVar→Option Value
 | .tmp t=>some (e.get t)
 | .cell a t=>dz T t (e.get a) h

def lF (fn:Func) (e:Env) (h:Heap):Option Value :=
 match fn.results.toList with
 | [r]=>rh T e h r
 |rs=>(rs.mapM (rh T e h)).map fun vs=>.tuple vs.toArray
end

/-! ### What the text of a function must be -/
def Mh (gs:List Nat):Operand→Bool
 | .const v=>plain v
 | .global g=>gs.contains g
 |_=>true
def Kw (gs:List Nat) (o:Oper):Bool:=o.op.operands.toList.all (Mh gs)
def pG (gs:List Nat):Code→Bool
 | .region _ ops _=>ops.toList.all (Kw gs)
 | .seq a b=>pG gs a && pG gs b
 | .cond c a b=>Mh gs c && pG gs a && pG gs b
 | .block _ c=>pG gs c
 | .loop c=>pG gs c
 | .scope c=>pG gs c
 | .rangeFunc g _ a b=>Mh gs g && pG gs a && pG gs b
 |_=>true
end Go.Am
namespace Go.Am
open Go.RowKit

/-! ### The plain heap -/
theorem Tr.get_nil (i:Nat):Tr.get .nil i=none:=by cases i <;> rfl

theorem Tr.aC:∀ (n:Nat) (t:Tr) (i j:Nat) (o:bh),i < n→(Tr.set n t i o).get j=if j=i then some o else t.get j
 |0,_,_,_,_,h=>by omega
 |n+1,t,i,j,o,h=>by
  cases t with
  |nil =>
   cases i with
   |zero=>cases j with
    |zero=>simp [Tr.set,Tr.get]
    |succ j=>simp [Tr.set,Tr.get]
   |succ i =>
    have hi:i / 2 < n:=by omega
    by_cases he:i % 2=0
    ·cases j with
     |zero=>simp [Tr.set,Tr.get,he]
     |succ j =>
      by_cases hj:j % 2=0
      ·simp only [Tr.set,Tr.get,he,hj,beq_self_eq_true,if_true,Tr.aC n .nil (i / 2) (j / 2) o hi]
       by_cases e:j=i
       ·subst e;simp
       ·rw [if_neg (by omega),if_neg (by omega)]
      ·have py:(j % 2 == 0)=false:=by simpa using hj
       simp only [Tr.set,Tr.get,he,py,beq_self_eq_true,if_true,Bool.false_eq_true,if_false]
       rw [if_neg (by intro e;apply hj;have:j=i:=by omega
                      subst this;exact he)]
    ·have ub:(i % 2 == 0)=false:=by simpa using he
     cases j with
     |zero=>simp [Tr.set,Tr.get,ub]
     |succ j =>
      by_cases hj:j % 2=0
      ·simp only [Tr.set,Tr.get,ub,hj,beq_self_eq_true,if_true,Bool.false_eq_true,if_false]
       rw [if_neg (by intro e;apply he;have:j=i:=by omega
                      subst this;exact hj)]
      ·have py:(j % 2 == 0)=false:=by simpa using hj
       simp only [Tr.set,Tr.get,ub,py,Bool.false_eq_true,if_false,Tr.aC n .nil (i / 2) (j / 2) o hi]
       by_cases e:j=i
       ·subst e;simp
       ·rw [if_neg (by omega),if_neg (by omega)]
  |node v l r =>
   cases i with
   |zero=>cases j with
    |zero=>simp [Tr.set,Tr.get]
    |succ j=>simp [Tr.set,Tr.get]
   |succ i =>
    have hi:i / 2 < n:=by omega
    by_cases he:i % 2=0
    ·cases j with
     |zero=>simp [Tr.set,Tr.get,he]
     |succ j =>
      by_cases hj:j % 2=0
      ·simp only [Tr.set,Tr.get,he,hj,beq_self_eq_true,if_true,Tr.aC n l (i / 2) (j / 2) o hi]
       by_cases e:j=i
       ·subst e;simp
       ·rw [if_neg (by omega),if_neg (by omega)]
      ·have py:(j % 2 == 0)=false:=by simpa using hj
       simp only [Tr.set,Tr.get,he,py,beq_self_eq_true,if_true,Bool.false_eq_true,if_false]
       rw [if_neg (by intro e;apply hj;have:j=i:=by omega
                      subst this;exact he)]
    ·have ub:(i % 2 == 0)=false:=by simpa using he
     cases j with
     |zero=>simp [Tr.set,Tr.get,ub]
     |succ j =>
      by_cases hj:j % 2=0
      ·simp only [Tr.set,Tr.get,ub,hj,beq_self_eq_true,if_true,Bool.false_eq_true,if_false]
       rw [if_neg (by intro e;apply he;have:j=i:=by omega
                      subst this;exact hj)]
      ·have py:(j % 2 == 0)=false:=by simpa using hj
       simp only [Tr.set,Tr.get,ub,py,Bool.false_eq_true,if_false,Tr.aC n r (i / 2) (j / 2) o hi]
       by_cases e:j=i
       ·subst e;simp
       ·rw [if_neg (by omega),if_neg (by omega)]

theorem Heap.size_push (h:Heap) (b:bh):(h.push b).size=h.size+1:=rfl
theorem Heap.size_set (h:Heap) (A:Nat) (b:bh):(h.set A b).size=h.size:=rfl
theorem Heap.dH (h:Heap) (b:bh):(h.push b).low=h.low:=rfl
theorem Heap.bX (h:Heap) (A:Nat) (b:bh):(h.set A b).low=min h.low A:=rfl
theorem Heap.bL (h:Heap) (b:bh) (j:Nat):(h.push b).get j=if j=h.size then some b else h.get j:=by
 simp only [Heap.get,Heap.push,Tr.aC _ _ _ _ _ (Nat.lt_succ_self _)]
 by_cases e:j=h.size
 ·subst e;simp
 ·by_cases hl:j < h.size
  ·rw [if_pos (by omega),if_neg e,if_pos hl,if_neg e]
  ·rw [if_neg (by omega),if_neg e,if_neg hl]
theorem Heap.aC (h:Heap) (A:Nat) (b:bh) (j:Nat) (hA:A < h.size):(h.set A b).get j=if j=A then some b else h.get j:=by
 simp only [Heap.get,Heap.set,Tr.aC _ _ _ _ _ (Nat.lt_succ_self _)]
 by_cases e:j=A
 ·subst e;simp [hA]
 ·by_cases hl:j < h.size
  ·rw [if_pos hl,if_neg e,if_pos hl,if_neg e]
  ·rw [if_neg hl,if_neg e,if_neg hl]
theorem Heap.bz {h:Heap} {A:Nat} {b:bh} (hb:h.get A=some b):A < h.size:=by
 unfold Heap.get at hb
 split at hb
 ·assumption
 ·cases hb

theorem Env.length_set:∀ (e:Env) (i:Nat) (v:Value),(Env.set e i v).length=e.length
 | [],_,_=>rfl
 |_::_,0,_=>rfl
 |x::r,n+1,v=>by simp [Env.set,Env.length_set r n v]
theorem Env.aC:∀ (e:Env) (i j:Nat) (v:Value),(Env.set e i v).get j=if j=i∧i < e.length then v else e.get j
 | [],_,_,_=>by simp [Env.set,Env.get]
 |x::r,0,j,v=>by cases j <;> simp [Env.set,Env.get]
 |x::r,i+1,j,v=>by
  cases j with
  |zero=>simp [Env.set,Env.get]
  |succ j=>simp [Env.set,Env.get,Env.aC r i j v]
theorem Env.mC:∀ (e:Env) (i:Nat),e.length≤i→e.get i=undef
 | [],_,_=>by simp [Env.get]
 |_::r,i+1,h=>by simp only [Env.get];exact Env.mC r i (by simpa using h)
 |_::_,0,h=>by simp at h
theorem Env.get_eq:∀ (e:Env) (i:Nat),e.get i=(e[i]?).getD undef
 | [],_=>by simp [Env.get]
 |_::_,0=>by simp [Env.get]
 |_::r,i+1=>by simp [Env.get,Env.get_eq r i]

/-! ### Values -/
structure Loc where
 b:Nat
 s:Nat
 r7:Nat

abbrev ct:=Nat→Option Loc

inductive VR (ρ:ct):Value→Value→Prop where
 |bool (b:Bool):VR ρ (.bool b) (.bool b)
 |int (k:IntKind) (n:Int):VR ρ (.int k n) (.int k n)
 |string (s:ByteArray):VR ρ (.string s) (.string s)
 |nH:VR ρ (.pointer none) (.pointer none)
 |ptr {A o:Nat} {L:Loc} (h:ρ A=some L):VR ρ (.pointer (some ⟨A,o,none⟩)) (.pointer (some ⟨L.b,L.s+o,none⟩))
 |cY:VR ρ (.slice none 0 0) (.slice none 0 0)
 |slice {A o n c:Nat} {L:Loc} {ad:Addr} (h:ρ A=some L) (hc:c < G) (hn:n≤c) (eI:c≠0→ad=⟨L.b,L.s+o,none⟩):VR ρ (.slice (some ⟨A,o,none⟩) n c) (.slice (some ad) n c)
 |ck {A o n c c':Nat} {L:Loc} {ad:Addr} (h:ρ A=some L) (hc:G≤c) (cR:c % G≤c') (hn:n≤c % G) (hk:0 < c / G)
  (hm:c'≤maxLen) (eI:c'≠0→ad=⟨L.b,L.s+o,none⟩∧L.s+o+c'*(c / G)≤L.r7):VR ρ (.slice (some ⟨A,o,none⟩) n c) (.slice (some ad) n c')
 |nG:VR ρ (.map none) (.map none)
 |nilFunc:VR ρ .nilFunc .nilFunc
 |map {A:Nat} {L:Loc} (h:ρ A=some L):VR ρ (.map (some A)) (.map (some L.b))
 |yield {A:Nat} {L:Loc} (h:ρ A=some L):VR ρ (.func (.yield A) #[] #[]) (.func (.yield L.b) #[] #[])
 |func (fn:FuncId) {f g c d:Array Value} (hf:f.size=g.size) (hc:c.size=d.size) (h1:∀ (i:Nat) (x y:Value),f[i]? = some x→g[i]? = some y→VR ρ x y)
  (h2:∀ (i:Nat) (x y:Value),c[i]? = some x→d[i]? = some y→VR ρ x y):VR ρ (.func (.func fn) f c) (.func (.func fn) g d)
 |nilIface:VR ρ .nilIface .nilIface
 |iface (t:TypeId) {x y:Value} (h:VR ρ x y):VR ρ (.iface t x) (.iface t y)
 |agg {c d:Array Value} (hc:c.size=d.size) (h:∀ (i:Nat) (x y:Value),c[i]? = some x→d[i]? = some y→VR ρ x y):VR ρ (.agg c) (.agg d)
 |tuple {c d:Array Value} (hc:c.size=d.size) (h:∀ (i:Nat) (x y:Value),c[i]? = some x→d[i]? = some y→VR ρ x y):VR ρ (.tuple c) (.tuple d)

theorem VR.mono {ρ ρ':ct} (hg:∀ A L,ρ A=some L→ρ' A=some L) {v u:Value} (h:VR ρ v u):VR ρ' v u:=by
 induction h with
 |bool b=>exact .bool b
 |int k n=>exact .int k n
 |string s=>exact .string s
 |nH=>exact .nH
 |ptr h=>exact .ptr (hg _ _ h)
 |cY=>exact .cY
 |slice h hc hn eI=>exact .slice (hg _ _ h) hc hn eI
 |ck h hc cR hn hk hm eI=>exact .ck (hg _ _ h) hc cR hn hk hm eI
 |nG=>exact .nG
 |map h=>exact .map (hg _ _ h)
 |yield h=>exact .yield (hg _ _ h)
 |nilFunc=>exact .nilFunc
 |func fn hf hc h1 h2 i1 i2=>exact .func fn hf hc i1 i2
 |nilIface=>exact .nilIface
 |iface t h ih=>exact .iface t ih
 |agg hc h ih=>exact .agg hc ih
 |tuple hc h ih=>exact .tuple hc ih

theorem VR.undef (ρ:ct):VR ρ undef undef:=.tuple rfl (by intro i x y hx;simp at hx)

theorem VR.ka (ρ:ct) {v:Value} (h:kO v=true):VR ρ v v:=by
 cases v with
 |bool b=>exact .bool b
 |int k n=>exact .int k n
 |string s=>exact .string s
 |pointer a=>cases a with
  |none=>exact .nH
  |some a=>simp [kO] at h
 |slice a n c=>cases a with
  |none =>
   simp [kO] at h
   obtain ⟨rfl,rfl⟩:=h
   exact .cY
  |some a=>simp [kO] at h
 |map r=>cases r with
  |none=>exact .nG
  |some r=>simp [kO] at h
 |func fn f c =>
  cases fn with
  |func fn =>
   simp [kO] at h
   obtain ⟨rfl,rfl⟩:=h
   exact .func fn rfl rfl (by intro i x y hx;simp at hx) (by intro i x y hx;simp at hx)
  |_=>simp [kO] at h
 |nilFunc=>exact .nilFunc
 |nilIface=>exact .nilIface
 |_=>simp [kO] at h

theorem VR.mz {ρ:ct} {v u:Value} (hv:VR ρ v u) (h:kO v=true):u=v:=by
 cases hv with
 |func fn hf hc h1 h2 =>
  simp [kO] at h
  obtain ⟨rfl,rfl⟩:=h
  have e1:∀ (a:Array Value),(#[]:Array Value).size=a.size→a=#[]:=fun a ha=>Array.eq_empty_of_size_eq_zero (by simpa using ha.symm)
  rw [e1 _ hf,e1 _ hc]
 |_=>first|rfl|simp [kO] at h

theorem VR.cX (ρ:ct) {v:Value} (h:plain v=true):VR ρ v v:=by
 cases v with
 |agg cs =>
  refine .agg rfl fun i x y hx hy=>?_
  have e:x=y:=by rw [hx] at hy;exact Option.some.inj hy
  subst e
  simp only [plain,List.all_eq_true] at h
  exact .ka ρ (h x (by simpa using Array.mem_of_getElem? hx))
 |_=>exact .ka ρ h

theorem VR.bG {ρ:ct} {v u:Value} (hv:VR ρ v u) (h:plain v=true):u=v:=by
 cases hv with
 |agg hc hh =>
  rename_i c d
  congr 1
  refine Array.ext hc.symm fun i h1 h2=>?_
  simp only [plain,List.all_eq_true] at h
  have hx:c[i]? = some c[i]:=Array.getElem?_eq_getElem h2
  exact (hh i _ _ hx (Array.getElem?_eq_getElem h1)).mz (h _ (by simp))
 |tuple hc hh=>simp [plain,kO] at h
 |func fn hf hc h1 h2=>exact (VR.func fn hf hc h1 h2).mz h
 |_=>first|rfl|(simp [plain,kO] at h;done)

theorem VR.one {ρ:ct} {v u:Value} (hv:VR ρ v u) (h:one v=true):u.oneCell'=true:=by
 cases hv <;> first|rfl|simp [Am.one] at h

def cu (ρ:ct) (l m:List Value):Prop:=l.length=m.length∧∀ (i:Nat) (x y:Value),l[i]? = some x→m[i]? = some y→VR ρ x y

theorem cu.nil (ρ:ct):cu ρ [] []:=⟨rfl,by intro i x y hx;simp at hx⟩
theorem cu.cons {ρ:ct} {x y:Value} {l m:List Value} (h:VR ρ x y) (hl:cu ρ l m):cu ρ (x::l) (y::m) :=
 ⟨by simp [hl.1],fun i a b ha hb=>by
  cases i with
  |zero=>simp at ha hb;subst ha hb;exact h
  |succ i=>exact hl.2 i a b (by simpa using ha) (by simpa using hb)⟩
theorem cu.of_cons {ρ:ct} {x:Value} {l m:List Value} (h:cu ρ (x::l) m):∃ y m',m=y::m'∧VR ρ x y∧cu ρ l m':=by
 cases m with
 |nil=>have:=h.1;simp at this
 |cons y m =>
  exact ⟨y,m,rfl,h.2 0 x y rfl rfl,by have:=h.1;simpa using this,fun i a b ha hb=>h.2 (i+1) a b (by simpa using ha) (by simpa using hb)⟩
theorem cu.of_nil {ρ:ct} {m:List Value} (h:cu ρ [] m):m=[]:=by
 have:=h.1
 simp at this
 exact List.eq_nil_of_length_eq_zero this.symm
theorem cu.mono {ρ ρ':ct} (hg:∀ A L,ρ A=some L→ρ' A=some L) {l m:List Value} (h:cu ρ l m):cu ρ' l m:=⟨h.1,fun i x y hx hy=>(h.2 i x y hx hy).mono hg⟩
theorem cu.append {ρ:ct} {l m l' m':List Value} (h:cu ρ l m) (h':cu ρ l' m'):cu ρ (l++l') (m++m'):=by
 induction l generalizing m with
 |nil=>rw [h.of_nil];exact h'
 |cons x l ih =>
  obtain ⟨y,m1,rfl,hx,hl⟩:=h.of_cons
  exact .cons hx (ih hl)
theorem cu.take {ρ:ct} {l m:List Value} (h:cu ρ l m) (n:Nat):cu ρ (l.take n) (m.take n):=by
 refine ⟨by simp [h.1],fun i x y hx hy=>?_⟩
 rw [List.getElem?_take] at hx hy
 split at hx
 ·rename_i hi;rw [if_pos hi] at hy;exact h.2 i x y hx hy
 ·cases hx
theorem cu.drop {ρ:ct} {l m:List Value} (h:cu ρ l m) (n:Nat):cu ρ (l.drop n) (m.drop n) :=
 ⟨by simp [h.1],fun i x y hx hy=>h.2 (n+i) x y (by simpa using hx) (by simpa using hy)⟩
theorem cu.ay {ρ:ct} {l m l' m':List Value} (h:cu ρ l m) (o:Nat) (h':cu ρ l' m'):cu ρ (ay l o l') (ay m o m'):=by
 unfold Am.ay
 rw [← h'.1]
 exact ((h.take o).append h').append (h.drop _)
theorem cu.cut {ρ:ct} {l m c:List Value} (h:cu ρ l m) {o n:Nat} (hc:cut l o n=some c):∃ d,cut m o n=some d∧cu ρ c d:=by
 unfold Am.cut at hc ⊢
 split at hc
 ·rename_i hl
  rw [if_pos (by rw [← h.1];exact hl)]
  cases hc
  exact ⟨_,rfl,(h.drop o).take n⟩
 ·cases hc
theorem cu.get {ρ:ct} {l m:List Value} (h:cu ρ l m) {i:Nat} {x:Value} (hx:l[i]? = some x):∃ y,m[i]? = some y∧VR ρ x y:=by
 have hi:i < l.length:=(List.getElem?_eq_some_iff.1 hx).1
 have hy:m[i]? = some (m[i]'(by rw [← h.1];exact hi)):=List.getElem?_eq_getElem _
 exact ⟨_,hy,h.2 i x _ hx hy⟩
theorem cu.plain (ρ:ct) {l:List Value} (h:l.all kO=true):cu ρ l l:=by
 refine ⟨rfl,fun i x y hx hy=>?_⟩
 rw [hx] at hy
 cases hy
 exact .ka ρ (List.all_eq_true.1 h x (List.mem_of_getElem? hx))
theorem cu.one {ρ:ct} {l m:List Value} (h:cu ρ l m) (h1:l.all one=true):∀ v∈m,v.oneCell'=true:=by
 intro v hv
 obtain ⟨i,hi⟩:=List.getElem?_of_mem hv
 have hl:i < l.length:=by rw [h.1];exact (List.getElem?_eq_some_iff.1 hi).1
 exact (h.2 i _ v (List.getElem?_eq_getElem hl) hi).one (List.all_eq_true.1 h1 _ (List.getElem_mem hl))
theorem cu.toArray {ρ:ct} {l m:List Value} (h:cu ρ l m):VR ρ (.agg l.toArray) (.agg m.toArray) :=
 .agg (by simp [h.1]) (fun i x y hx hy=>h.2 i x y (by simpa using hx) (by simpa using hy))
theorem cu.iB {ρ:ct} {l m:List Value} (h:cu ρ l m):VR ρ (.tuple l.toArray) (.tuple m.toArray) :=
 .tuple (by simp [h.1]) (fun i x y hx hy=>h.2 i x y (by simpa using hx) (by simpa using hy))
theorem VR.B6 {ρ:ct} {c d:Array Value} (h:VR ρ (.agg c) (.agg d)):cu ρ c.toList d.toList:=by
 cases h with
 |agg hc hh=>exact ⟨by simpa using hc,fun i x y hx hy=>hh i x y (by simpa using hx) (by simpa using hy)⟩
theorem VR.cells {ρ:ct} {v u:Value} (h:VR ρ v u):cu ρ v.cells.toList u.cells.toList:=by
 cases h with
 |agg hc hh=>exact (VR.agg hc hh).B6
 |_=>exact .cons (by first|exact .bool _|exact .int _ _|exact .string _|exact .nH|exact .ptr ‹_› | exact .cY|exact .slice ‹_› ‹_› ‹_› ‹_› | exact .ck ‹_› ‹_› ‹_› ‹_› ‹_› ‹_› ‹_› | exact .nG|exact .map ‹_› | exact .yield ‹_› | exact .nilFunc|exact .func _ ‹_› ‹_› ‹_› ‹_› | exact .nilIface|exact .iface _ ‹_› | exact .tuple ‹_› ‹_›) (.nil ρ)

def cd (ρ:ct) (e:Env) (tmps:Array Value):Prop:=e.length=tmps.size∧∀ i,VR ρ (e.get i) (tmps.getD i undef)
theorem cd.mono {ρ ρ':ct} {e:Env} {tmps:Array Value} (he:cd ρ e tmps) (hg:∀ A L,ρ A=some L→ρ' A=some L):cd ρ' e tmps:=⟨he.1,fun i=>(he.2 i).mono hg⟩
def kY (ρ:ct) (l m:List MapEntry):Prop:=l.length=m.length∧∀ (i:Nat) (x y:MapEntry),l[i]? = some x→m[i]? = some y→VR ρ x.key y.key∧VR ρ x.val y.val∧x.born=y.born∧plain x.key=true
theorem kY.mono {ρ ρ':ct} (hg:∀ A L,ρ A=some L→ρ' A=some L) {l m:List MapEntry} (h:kY ρ l m):kY ρ' l m :=
 ⟨h.1,fun i x y hx hy=>⟨(h.2 i x y hx hy).1.mono hg,(h.2 i x y hx hy).2.1.mono hg,(h.2 i x y hx hy).2.2⟩⟩

/-! ### What the text of a function must be, at the places that are known -/
def cL (gs:List Nat) (ρ:ct):Prop:=∀ g∈gs,∃ t,ρ g=some ⟨g,0,t⟩
def qC (ρ:ct):Operand→Prop
 | .const v=>plain v=true
 | .global g=>∃ t,ρ g=some ⟨g,0,t⟩
 |_=>True
def jV (ρ:ct) (o:Oper):Prop:=∀ x∈o.op.operands.toList,qC ρ x
def cy (ρ:ct):Code→Prop
 | .region _ ops _=>∀ o∈ops.toList,jV ρ o
 | .seq a b=>cy ρ a∧cy ρ b
 | .cond c a b=>qC ρ c∧cy ρ a∧cy ρ b
 | .block _ c=>cy ρ c
 | .loop c=>cy ρ c
 | .scope c=>cy ρ c
 | .rangeFunc g _ a b=>qC ρ g∧cy ρ a∧cy ρ b
 |_=>True
section
variable {ρ ρ':ct} (hg:∀ A L,ρ A=some L→ρ' A=some L)
include hg
theorem cL.mono {gs:List Nat} (h:cL gs ρ):cL gs ρ':=fun g hh=>let ⟨t,ht⟩:=h g hh;⟨t,hg _ _ ht⟩
theorem qC.mono {x:Operand} (h:qC ρ x):qC ρ' x:=by
 cases x with
 |global g=>exact let ⟨t,ht⟩:=h;⟨t,hg _ _ ht⟩
 |_=>exact h
theorem jV.mono {o:Oper} (h:jV ρ o):jV ρ' o:=fun x hx=>(h x hx).mono hg
theorem cy.mono:∀ {c:Code},cy ρ c→cy ρ' c:=by
 intro c
 induction c with
 |region id ops d=>exact fun h o ho=>(h o ho).mono hg
 |seq a b gI gJ=>exact fun h=>⟨gI h.1,gJ h.2⟩
 |cond c a b gI gJ=>exact fun h=>⟨h.1.mono hg,gI h.2.1,gJ h.2.2⟩
 |block id c ih=>exact fun h=>ih h
 |loop c ih=>exact fun h=>ih h
 |scope c ih=>exact fun h=>ih h
 |rangeFunc g ps a b gI gJ=>exact fun h=>⟨h.1.mono hg,gI h.2.1,gJ h.2.2⟩
 |_=>exact fun _=>trivial
end
theorem qC.of {gs:List Nat} {ρ:ct} (hG:cL gs ρ) {x:Operand} (h:Mh gs x=true):qC ρ x:=by
 cases x with
 |global g=>exact hG g (by simpa [Mh] using h)
 |const v=>exact h
 |_=>trivial
theorem jV.of {gs:List Nat} {ρ:ct} (hG:cL gs ρ) {o:Oper} (h:Kw gs o=true):jV ρ o:=fun x hx=>.of hG (List.all_eq_true.1 h x hx)
theorem cy.of {gs:List Nat} {ρ:ct} (hG:cL gs ρ):∀ {c:Code},pG gs c=true→cy ρ c:=by
 intro c
 induction c with
 |region id ops d=>exact fun h o ho=>.of hG (List.all_eq_true.1 h o ho)
 |seq a b gI gJ=>exact fun h=>by simp only [pG,Bool.and_eq_true] at h;exact ⟨gI h.1,gJ h.2⟩
 |cond c a b gI gJ=>exact fun h=>by simp only [pG,Bool.and_eq_true] at h;exact ⟨.of hG h.1.1,gI h.1.2,gJ h.2⟩
 |block id c ih=>exact fun h=>ih h
 |loop c ih=>exact fun h=>ih h
 |scope c ih=>exact fun h=>ih h
 |rangeFunc g ps a b gI gJ=>exact fun h=>by simp only [pG,Bool.and_eq_true] at h;exact ⟨.of hG h.1.1,gI h.1.2,gJ h.2⟩
 |_=>exact fun _=>trivial

/-! ### Heaps -/
def live (h:Heap) (A:Nat):Prop:=∃ b,h.get A=some b∧b≠.dead
def lA (h:Heap) (A:Nat):Prop:=∃ cs e,h.get A=some (.row cs e true)

def sR:TypeId:=1099511627776
def sV:List Value:=Lib.asciiSpaceTab.map fun z=>Value.int .u8 z
def PI:TypeId:=5
structure lV (e:TypeId) (n:Nat) (fz:Nat × Nat):Prop where
 in':∀ j,j < n→¬ (fz.1≤j∧j < fz.2)
 Tq:e=PI∨¬ (fz.1≤n∧n < fz.2)
theorem lV.zero (e:TypeId) (n:Nat):lV e n (0,0):=⟨fun _ _ h=>by have:=h.2;simp at this,.inr fun h=>by have:=h.2;simp at this⟩
def og (ρ:ct) (w:World) (L:Loc):Option bh→Prop
 |some (.row cs e true)=>(L.b < w.heap.size∧(e=sR→cs=sV))∧∀ (i:Nat) (v:Value),cs[i]? = some v→∃ u,w.cell? ⟨L.b,L.s+i,none⟩=some u∧VR ρ v u
 |some (.row cs e false)=>∃ (cur:Array Value) (fz:Nat × Nat),w.heap[L.b]? = some (.cells cur e fz)∧lV e cur.size fz∧cur.size=L.r7∧∃ m,cut cur.toList L.s cs.length=some m∧cu ρ cs m
 |some (.map es clock)=>∃ ces:Array MapEntry,w.heap[L.b]? = some (.map ces clock)∧kY ρ es ces.toList
 |some (.loop env ps assign body st dt)=>∃ l:Loop,w.heap[L.b]? = some (.loop l)∧l.state=st∧l.pending=dt∧l.params.toList=ps∧l.assign=assign∧l.body=body∧cd ρ env l.tmps∧cy ρ assign∧cy ρ body
 |some .dead=>L.b < w.heap.size
 |none=>L.b < w.heap.size

theorem og.keep {ρ ρ':ct} {w w':World} {L:Loc} {b:Option bh} (hb:og ρ w L b) (hg:∀ A L,ρ A=some L→ρ' A=some L) (dB:w.heap.size≤w'.heap.size)
 (hk:(∃ x,b=some x∧x≠.dead)→w'.heap[L.b]? = w.heap[L.b]?):og ρ' w' L b:=by
 cases b with
 |none=>exact Nat.lt_of_lt_of_le hb dB
 |some b =>
  cases b with
  |dead=>exact Nat.lt_of_lt_of_le hb dB
  |map es clock =>
   obtain ⟨ces,hc,he⟩:=hb
   exact ⟨ces,(hk ⟨_,rfl,by simp⟩).trans hc,he.mono hg⟩
  |loop env ps assign body st dt =>
   obtain ⟨l,hc,h1,h2,h3,h4,h5,h6,h7⟩:=hb
   exact ⟨l,(hk ⟨_,rfl,by simp⟩).trans hc,h1,h2,h3,h4,h5,h6.mono hg,h7.1.mono hg,h7.2.mono hg⟩
  |row cs e ro =>
   have sG:=hk ⟨_,rfl,by simp⟩
   cases ro with
   |true =>
    refine ⟨⟨Nat.lt_of_lt_of_le hb.1.1 dB,hb.1.2⟩,fun i v hi=>?_⟩
    obtain ⟨u,hu,lN⟩:=hb.2 i v hi
    refine ⟨u,?_,lN.mono hg⟩
    rw [← hu]
    simp only [World.cell?,sG]
   |false =>
    obtain ⟨cur,fz,hc,nC,ht,m,hm,hv⟩:=hb
    exact ⟨cur,fz,sG.trans hc,nC,ht,m,hm,hv.mono hg⟩

structure bK (ρ:ct) (h:Heap) (w:World):Prop where
 jX:∀ A L,ρ A=some L→og ρ w L (h.get A)
 inj:∀ A A' L L',ρ A=some L→ρ A'=some L'→A≠A'→L.b=L'.b→¬ live h A∨¬ live h A'∨(lA h A∧lA h A')

theorem bK.lt {ρ:ct} {h:Heap} {w:World} (hs:bK ρ h w) {A:Nat} {L:Loc} (hA:ρ A=some L):L.b < w.heap.size:=by
 have hb:=hs.jX A L hA
 cases hg:h.get A with
 |none=>rw [hg] at hb;exact hb
 |some b =>
  rw [hg] at hb
  cases b with
  |dead=>exact hb
  |map es clock =>
   obtain ⟨ces,hc,_⟩:=hb
   exact (Array.getElem?_eq_some_iff.1 hc).1
  |loop env ps assign body st dt =>
   obtain ⟨l,hc,_⟩:=hb
   exact (Array.getElem?_eq_some_iff.1 hc).1
  |row cs e ro =>
   cases ro with
   |true=>exact hb.1.1
   |false =>
    obtain ⟨cur,fz,hc,_⟩:=hb
    exact (Array.getElem?_eq_some_iff.1 hc).1

def eY (ρ:ct) (h h':Heap):Prop:=∀ A,h.size≤A→A < h'.size→ρ A=none

structure Fr (ρ ρ':ct) (h h':Heap) (w w':World):Prop where
 grow:∀ A L,ρ A=some L→ρ' A=some L
 fresh:∀ A L,ρ' A=some L→ρ A=none→h.size≤A∧A < h'.size∧(w.heap.size≤L.b∨∃ A0 L0,ρ A0=some L0∧L0.b=L.b∧h'.low≤A0∧A0 < h'.size)
 os:w'.os=w.os
 tape:w'.tape=w.tape
 output:w'.output=w.output
 size:w.heap.size≤w'.heap.size
 gE:h.size≤h'.size
 low:h'.low≤h.low
 keep:∀ b,b < w.heap.size→(∀ A L,ρ A=some L→L.b=b→A < h'.low∨h'.size≤A)→w'.heap[b]? = w.heap[b]?
 qD:∀ A,A < h.size→A < h'.low→h'.get A=h.get A

theorem Fr.refl (ρ:ct) (h:Heap) (w:World):Fr ρ ρ h h w w :=
 ⟨fun _ _ h=>h,fun A L h1 h2=>(by rw [h1] at h2;cases h2),rfl,rfl,rfl,Nat.le_refl _,Nat.le_refl _,Nat.le_refl _,fun _ _ _=>rfl,fun _ _ _=>rfl⟩

theorem Fr.trans {ρ ρ' ρ'':ct} {h h' h'':Heap} {w w' w'':World} (f:Fr ρ ρ' h h' w w') (g:Fr ρ' ρ'' h' h'' w' w''):Fr ρ ρ'' h h'' w w'':=by
 refine ⟨fun A L hA=>g.grow A L (f.grow A L hA),?_,g.os.trans f.os,g.tape.trans f.tape,g.output.trans f.output,Nat.le_trans f.size g.size,Nat.le_trans f.gE g.gE,Nat.le_trans g.low f.low,?_,?_⟩
 ·intro A L hA hn
  cases hρ:ρ' A with
  |some L1 =>
   have e:L1=L:=by have:=g.grow A L1 hρ;rw [hA] at this;exact (Option.some.inj this).symm
   subst e
   obtain ⟨h1,bE,h2⟩:=f.fresh A L1 hρ hn
   refine ⟨h1,Nat.lt_of_lt_of_le bE g.gE,?_⟩
   rcases h2 with h2|⟨A0,L0,h0,he,hl,rO⟩
   ·exact .inl h2
   ·exact .inr ⟨A0,L0,h0,he,Nat.le_trans g.low hl,Nat.lt_of_lt_of_le rO g.gE⟩
  |none =>
   obtain ⟨h1,bE,h2⟩:=g.fresh A L hA hρ
   refine ⟨Nat.le_trans f.gE h1,bE,?_⟩
   rcases h2 with h2|⟨A0,L0,h0,he,hl,rO⟩
   ·exact .inl (Nat.le_trans f.size h2)
   ·cases DT:ρ A0 with
    |some L1 =>
     have e:L1=L0:=by have:=f.grow A0 L1 DT;rw [h0] at this;exact (Option.some.inj this).symm
     subst e
     exact .inr ⟨A0,L1,DT,he,hl,rO⟩
    |none =>
     rcases (f.fresh A0 L0 h0 DT).2.2 with h3|⟨A1,L1,h3,he3,JD,Wd⟩
     ·exact .inl (by omega)
     ·exact .inr ⟨A1,L1,h3,he3.trans he,Nat.le_trans g.low JD,Nat.lt_of_lt_of_le Wd g.gE⟩
 ·intro b hb az
  have I9:∀ A L,ρ A=some L→L.b=b→A < h'.low∨h'.size≤A:=fun A L hA hL=>by
   have h1:=az A L hA hL
   have h2:=g.low
   have h3:=g.gE
   omega
  rw [g.keep b (Nat.lt_of_lt_of_le hb f.size) ?_,f.keep b hb I9]
  intro A L hA hL
  cases hρ:ρ A with
  |some L0 =>
   have e:L0=L:=by have:=f.grow A L0 hρ;rw [hA] at this;exact (Option.some.inj this).symm
   subst e
   exact az A L0 hρ hL
  |none =>
   rcases (f.fresh A L hA hρ).2.2 with h1|⟨A0,L0,h0,he,hl,rO⟩
   ·omega
   ·have h1:=az A0 L0 h0 (he.trans hL)
    have h2:=g.low
    have h3:=g.gE
    omega
 ·intro A hA hl
  rw [g.qD A (Nat.lt_of_lt_of_le hA f.gE) hl,f.qD A hA (Nat.lt_of_lt_of_le hl g.low)]

theorem eY.left {ρ:ct} {h h1 h2:Heap} (hf:eY ρ h h2) (hle:h1.size≤h2.size):eY ρ h h1:=fun A h3 h4=>hf A h3 (Nat.lt_of_lt_of_le h4 hle)
theorem eY.right {ρ ρ':ct} {h h1 h2:Heap} {w w':World} (hf:eY ρ h h2) (fr:Fr ρ ρ' h h1 w w'):eY ρ' h1 h2:=by
 intro A h3 h4
 cases hA:ρ' A with
 |none=>rfl
 |some L =>
  have hn:=hf A (Nat.le_trans fr.gE h3) h4
  have:=(fr.fresh A L hA hn).2.1
  omega

end Go.Am
namespace Go.Am
open Go.RowKit

structure bD.Fits (T:bD) (P:Program):Prop where
 desc:∀ t d,T.desc t=some d→P.underlying t=some d
 info:∀ t n b z,T.info t=some (n,b,z)→∃ i zv,P.info? t=some i∧i.size=n∧i.bytes=b∧i.zero=some zv∧zv.cells.toList=z∧z.length=n∧z.all kO=true
 fn:∀ f fn,T.fn f=some fn→P.funcs[f]? = some fn∧(fn.name == "runtime.NumGoroutine")=false∧∀ c,fn.body=some c→pG T.gs c=true
 cmp:∀ t,T.cmp t=true→P.stoodInHeld t=false∧P.eqGuardType P.depth t=false
 zero:∀ t v,T.zero t=some v→(∃ i,P.info? t=some i∧i.zero=some v)∧plain v=true
 uX:∀ t name m,T.uX t name=some m→∃ i,P.info? t=some i∧i.methods.find? (·.name == name)=some m

theorem q8 {l m:List Value} {o n:Nat} (h:cut l o n=some m):o+n≤l.length∧m.length=n∧∀ i,i < n→m[i]? = l[o+i]? := by
 unfold cut at h
 split at h
 ·rename_i hl
  cases h
  refine ⟨hl,by simp;omega,fun i hi=>?_⟩
  rw [List.getElem?_take,if_pos hi,List.getElem?_drop]
 ·cases h
theorem pH {l m:List Value} {o n:Nat} (hl:o+n≤l.length) (hm:m.length=n) (h:∀ i,i < n→m[i]? = l[o+i]?):cut l o n=some m:=by
 unfold cut
 rw [if_pos hl]
 congr 1
 refine List.ext_getElem? fun i=>?_
 rw [List.getElem?_take]
 split
 ·rename_i hi;rw [List.getElem?_drop,h i hi]
 ·rw [List.getElem?_eq_none (by omega)]

theorem mQ {l vs:List Value} {o:Nat} (h:o+vs.length≤l.length):(ay l o vs).length=l.length:=by
 simp [ay];omega
theorem bH (l vs:List Value) (o i:Nat) (h:o+vs.length≤l.length):(ay l o vs)[i]? = if i < o then l[i]? else if i < o+vs.length then vs[i - o]? else l[i]? := by
 unfold ay
 rw [List.getElem?_append,List.getElem?_append]
 have hl:(l.take o).length=o:=by simp;omega
 simp only [List.length_append,hl]
 by_cases h1:i < o
 ·rw [if_pos (by omega),if_pos h1,if_pos h1,List.getElem?_take,if_pos h1]
 ·rw [if_neg h1]
  by_cases h2:i < o+vs.length
  ·rw [if_pos h2,if_neg h1,if_pos h2]
  ·rw [if_neg h2,if_neg h2,List.getElem?_drop]
   rw [show o+vs.length+(i - (o+vs.length))=i by omega,if_neg h1]
theorem zq8 {cur m us:List Value} {s n o:Nat} (hc:cut cur s n=some m) (ho:o+us.length≤n):cut (ay cur (s+o) us) s n=some (ay m o us):=by
 obtain ⟨h1,h2,h3⟩:=q8 hc
 refine pH (by rw [mQ (by omega)];exact h1) (by rw [mQ (by omega)];exact h2) fun i hi=>?_
 rw [bH _ _ _ _ (by omega),bH _ _ _ _ (by omega)]
 by_cases h4:i < o
 ·rw [if_pos h4,if_pos (show s+i < s+o by omega),h3 i hi]
 ·rw [if_neg h4,if_neg (show ¬ s+i < s+o by omega)]
  by_cases h5:i < o+us.length
  ·rw [if_pos h5,if_pos (show s+i < s+o+us.length by omega)]
   congr 1
   omega
  ·rw [if_neg h5,if_neg (show ¬ s+i < s+o+us.length by omega),h3 i hi]

section
variable {P:Program} {T:bD} {ρ:ct} {h h':Heap} {w:World}

theorem Ox (hs:bK ρ h w) {A o n:Nat} {L:Loc} {l:List Value} (hA:ρ A=some L) (hc:gL A o n h=some l) :
 ∃ m,cu ρ l m∧m.length=n∧w.rangeAt L.b (L.s+o) m:=by
 have hb:=hs.jX A L hA
 unfold gL at hc
 cases hg:h.get A with
 |none=>rw [hg] at hc;cases hc
 |some b =>
  rw [hg] at hc hb
  cases b with
  |dead=>cases hc
  |map es clock=>cases hc
  |loop env ps assign body st dt=>cases hc
  |row cs e ro =>
   obtain ⟨h1,h2,h3⟩:=q8 hc
   cases ro with
   |true =>
    obtain ⟨_,eX⟩:=hb
    have hex:∀ i,i < n→∃ u,w.cell? ⟨L.b,L.s+(o+i),none⟩=some u∧∀ x,l[i]? = some x→VR ρ x u:=by
     intro i hi
     have hx:cs[o+i]? = some (cs[o+i]'(by omega)):=List.getElem?_eq_getElem _
     obtain ⟨u,hu,hv⟩:=eX (o+i) _ hx
     refine ⟨u,hu,fun x hxx=>?_⟩
     rw [h3 i hi,hx] at hxx
     cases hxx
     exact hv
    refine ⟨(List.range n).map fun i=>(w.cell? ⟨L.b,L.s+(o+i),none⟩).getD undef,⟨by simp [h2],fun i x y hx hy=>?_⟩,by simp,fun j v hv=>?_⟩
    ·have hi:i < n:=by rw [← h2];exact (List.getElem?_eq_some_iff.1 hx).1
     obtain ⟨u,hu,hv⟩:=hex i hi
     rw [List.getElem?_map,List.getElem?_range hi,Option.map_some,hu] at hy
     cases hy
     exact hv x hx
    ·have hj:j < n:=by have:=(List.getElem?_eq_some_iff.1 hv).1;simpa using this
     obtain ⟨u,hu,_⟩:=hex j hj
     rw [List.getElem?_map,List.getElem?_range hj,Option.map_some,hu] at hv
     cases hv
     rw [Nat.add_assoc]
     exact hu
   |false =>
    obtain ⟨cur,fz,gG,_,_,m,hm,hv⟩:=hb
    obtain ⟨d,hd,sK⟩:=hv.cut hc
    obtain ⟨k1,k2,k3⟩:=q8 hm
    obtain ⟨d1,d2,d3⟩:=q8 hd
    refine ⟨d,sK,d2,fun j v hj=>?_⟩
    have Wa:j < n:=by rw [← d2];exact (List.getElem?_eq_some_iff.1 hj).1
    rw [cell_of_row w L.b _ cur e fz gG]
    rw [d3 j Wa,k3 (o+j) (by rw [k2] at d1;omega)] at hj
    rw [← Array.getElem?_toList,Nat.add_assoc]
    exact hj

theorem YS (hT:T.Fits P) (hs:bK ρ h w) {t:TypeId} {x y v:Value} (cS:VR ρ x y) (hl:dz T t x h=some v) :
 ∃ u,(Instr.loadAt t y).run P w=.ok u w∧VR ρ v u:=by
 cases cS with
 |ptr hA =>
  rename_i A o L
  simp only [dz] at hl
  cases hg:T.desc t with
  |none=>simp [aq,hg] at hl
  |some d =>
   have hu:=hT.desc t d hg
   have key:∀ (n:Nat) (l:List Value),T.info t≠none→gL A o n h=some l→d.isRow=true→(T.info t).map (·.1)=some n→v=.agg l.toArray→∃ u,(Instr.loadAt t (.pointer (some ⟨L.b,L.s+o,none⟩))).run P w=.ok u w∧VR ρ v u:=by
    intro n l _ hc hd hi hv
    obtain ⟨m,hm,hlen,hr⟩:=Ox hs hA hc
    cases fS:T.info t with
    |none=>simp [fS] at hi
    |some q =>
     obtain ⟨q1,q2,q3⟩:=q
     obtain ⟨i,zv,e1,e2,_⟩:=hT.info t q1 q2 q3 fS
     simp [fS] at hi
     refine ⟨.agg m.toArray,run_loadAt_mid w L.b (L.s+o) t m d hr hu hd (by rw [e1];simp [e2,hi,hlen]),?_⟩
     rw [hv]
     exact hm.toArray
   have Xe:∀ (l:List Value),gL A o 1 h=some l→l[0]? = some v→d.isRow=false→∃ u,(Instr.loadAt t (.pointer (some ⟨L.b,L.s+o,none⟩))).run P w=.ok u w∧VR ρ v u:=by
    intro l hc h0 hd
    obtain ⟨m,hm,hlen,hr⟩:=Ox hs hA hc
    obtain ⟨u,WT,jF⟩:=hm.get h0
    have eX:=hr 0 u WT
    refine ⟨u,?_,jF⟩
    have np:(isAgg t).run P w=.ok false w:=by
     unfold isAgg
     rw [Sem.run_bind,run_underlying hu w]
     cases d <;> simp_all
    simp only [Nat.add_zero] at eX
    simp [Instr.loadAt,Instr.sureAddr,loadVar,Sem.run_bind,np,eX]
   have Jk:(∃ n l,T.info t≠none∧gL A o n h=some l∧d.isRow=true∧(T.info t).map (·.1)=some n∧v=.agg l.toArray)∨(∃ l,gL A o 1 h=some l∧l[0]? = some v∧d.isRow=false):=by
    have WC:∀ (hl:((bO T t).bind fun n=>(gL A o n h).map fun l=>Value.agg l.toArray)=some v) (hd:d.isRow=true),
     ∃ n l,T.info t≠none∧gL A o n h=some l∧d.isRow=true∧(T.info t).map (·.1)=some n∧v=.agg l.toArray:=by
     intro hl hd
     simp only [bO,Option.bind_eq_some_iff,Option.map_eq_some_iff] at hl
     obtain ⟨n,⟨q,hq,rfl⟩,l,hc,rfl⟩:=hl
     exact ⟨q.1,l,by rw [hq];simp,hc,hd,by rw [hq];rfl,rfl⟩
    cases d <;> simp only [aq,hg,Option.map_some,Option.bind_some,if_true,Bool.false_eq_true,if_false] at hl <;>
     first
      |(left;exact WC hl rfl)
      |(right;simp only [Option.bind_eq_some_iff] at hl;obtain ⟨l,hc,h0⟩:=hl;exact ⟨l,hc,h0,rfl⟩)
   rcases Jk with ⟨n,l,a,b,c,d',e⟩|⟨l,a,b,c⟩
   ·exact key n l a b c d' e
   ·exact Xe l a b c
 |_=>simp [dz] at hl

theorem Ma (hs:bK ρ h w) {A:Nat} {L:Loc} {b b':bh} {W:World} (hA:ρ A=some L) (hg:h.get A=some b) (iN:b≠.dead) (qR:∀ cs e,b≠.row cs e true)
 (rR:W.os=w.os) (jD:W.tape=w.tape) (jA:W.output=w.output) (dB:W.heap.size=w.heap.size) (gZ:∀ k,k≠L.b→W.heap[k]? = w.heap[k]?) (kj:og ρ W L (some b')) :
 Fr ρ ρ h (h.set A b') w W∧bK ρ (h.set A b') W:=by
 have rE:A < h.size:=Heap.bz hg
 refine ⟨⟨fun _ _ h=>h,fun A' L' h1 h2=>(by rw [h1] at h2;cases h2),rR,jD,jA,by rw [dB];exact Nat.le_refl _,Nat.le_refl _,Nat.min_le_left _ _,?_,?_⟩,⟨?_,?_⟩⟩
 ·intro b hb az
  refine gZ b fun e=>?_
  subst e
  have:=az A L hA rfl
  rw [Heap.bX,Heap.size_set] at this
  omega
 ·intro A' dR hl
  rw [Heap.bX] at hl
  rw [Heap.aC _ _ _ _ rE,if_neg (by omega)]
 ·intro A' L' dR
  rw [Heap.aC _ _ _ _ rE]
  by_cases e':A'=A
  ·subst e'
   rw [hA] at dR
   cases dR
   rw [if_pos rfl]
   exact kj
  ·rw [if_neg e']
   refine (hs.jX A' L' dR).keep (fun _ _ h=>h) (by omega) ?_
   rintro ⟨x,hx,hxd⟩
   refine gZ L'.b fun heq=>?_
   rcases hs.inj A' A L' L dR hA e' heq with h1|h1|h1
   ·exact h1 ⟨x,hx,hxd⟩
   ·exact h1 ⟨_,hg,iN⟩
   ·obtain ⟨_,Nq,e2,pw⟩:=h1
    rw [hg] at pw
    cases pw
    exact qR _ _ rfl
 ·intro A1 A2 L1 L2 h1 h2 aO hb
  have cp:∀ A',¬ live h A'→¬ live (h.set A b') A':=by
   intro A' hd
   by_cases e':A'=A
   ·subst e';exact (hd ⟨_,hg,iN⟩).elim
   ·unfold live at hd ⊢
    rw [Heap.aC _ _ _ _ rE,if_neg e']
    exact hd
  have JY:∀ A',lA h A'→lA (h.set A b') A':=by
   rintro A' ⟨Nq,e2,pw⟩
   refine ⟨Nq,e2,?_⟩
   rw [Heap.aC _ _ _ _ rE,if_neg (by intro e';subst e';rw [hg] at pw;cases pw;exact qR _ _ rfl)]
   exact pw
  rcases hs.inj A1 A2 L1 L2 h1 h2 aO hb with h3|h3|⟨h3,h4⟩
  ·exact .inl (cp _ h3)
  ·exact .inr (.inl (cp _ h3))
  ·exact .inr (.inr ⟨JY _ h3,JY _ h4⟩)

theorem Oh (P:Program) (g o:Nat) (t:TypeId) (fz:Nat × Nat):∀ (vs:List Value) (i:Nat) (cur:Array Value) (w:World),w.heap[g]? = some (.cells cur t fz)→lV t cur.size fz→o+i+vs.length≤cur.size→(∀ v∈vs,v.oneCell'=true) →
 (storeCells ⟨g,o,none⟩ vs i).run P w=.ok () (w.setRow g (cur.toList.take (o+i)++vs++cur.toList.drop (o+i+vs.length)).toArray)
 | [],i,cur,w,hg,_,_,_=>by
  simp only [storeCells,List.append_nil,List.length_nil,Nat.add_zero,List.take_append_drop,Array.toArray_toList]
  rw [setRow_self w g cur t fz hg]
  rfl
 |v::rest,i,cur,w,hg,V0,hl,h1=>by
  have hi:o+i < cur.size:=by simp at hl;omega
  have Vt:(⟨g,o,none⟩:Addr).add i=⟨g,o+i,none⟩:=by unfold Addr.add;split <;> simp_all
  have eX:w.cell? ⟨g,o+i,none⟩=some cur[o+i]:=by simp [World.cell?,hg,hi]
  have VZ:w.frozen? ⟨g,o+i,none⟩=false:=by
   have h0:=V0.in' (o+i) hi
   obtain ⟨lo,oL⟩:=fz
   simp only [World.frozen?,hg,Bool.and_eq_false_iff,decide_eq_false_iff_not]
   simp only at h0
   omega
  have eb:(store ((⟨g,o,none⟩:Addr).add i) v).run P w=.ok () (w.setRow g (cur.setIfInBounds (o+i) v)):=by
   rw [Vt,run_store P w _ v _ (h1 v (by simp)),eX]
   simp [VZ,setCell_eq_setRow w g (o+i) cur t fz v hg]
  have ih:=Oh P g o t fz rest (i+1) (cur.setIfInBounds (o+i) v) (w.setRow g (cur.setIfInBounds (o+i) v)) (setRow_heap w g cur _ t _ hg) (by simpa using V0) (by simp at hl ⊢;omega) (fun x hx=>h1 x (by simp [hx]))
  simp only [storeCells,Sem.run_bind,eb,Result.andThen_ok,ih,setRow_setRow]
  congr 3
  have e:=list_seg_step cur.toList (o+i) v rest (by simp at hl ⊢;omega)
  simpa [Array.toList_setIfInBounds,Nat.add_assoc] using e

theorem LZ (hs:bK ρ h w) {A o:Nat} {L:Loc} {vs us:List Value} (hA:ρ A=some L) (hv:cu ρ vs us) (hw:kW A o vs h=some h') :
 ∃ w',(storeCells ⟨L.b,L.s+o,none⟩ us 0).run P w=.ok () w'∧Fr ρ ρ h h' w w'∧bK ρ h' w':=by
 have hb:=hs.jX A L hA
 unfold kW at hw
 split at hw
 ·rename_i cs e hg
  split at hw
  ·rename_i hc
   simp only [Bool.and_eq_true,decide_eq_true_eq] at hc
   obtain ⟨ho,h1⟩:=hc
   cases hw
   rw [hg] at hb
   obtain ⟨cur,fz,gG,nC,nD,m,hm,WY⟩:=hb
   obtain ⟨k1,k2,k3⟩:=q8 hm
   have hlu:vs.length=us.length:=hv.1
   have eb:=Oh P L.b (L.s+o) e fz us 0 cur w gG nC (by simp at k1 ⊢;omega) (hv.one h1)
   simp only [Nat.add_zero] at eb
   let jY:=(cur.toList.take (L.s+o)++us++cur.toList.drop (L.s+o+us.length)).toArray
   have oH:(w.setRow L.b jY).heap[L.b]? = some (.cells jY e fz):=setRow_heap w L.b cur jY e _ gG
   have dB:(w.setRow L.b jY).heap.size=w.heap.size:=by simp [World.setRow]
   have WN:lV e jY.size fz:=by
    have:=mQ (l:=cur.toList) (vs:=us) (o:=L.s+o) (by simp at k1 ⊢;omega)
    have h2:jY.size=cur.size:=by simpa [jY,ay] using this
    rw [h2]
    exact nC
   refine ⟨w.setRow L.b jY,eb,Ma hs hA hg (by simp) (by simp) rfl rfl rfl dB (fun b hb=>setRow_other w L.b b jY hb) ⟨jY,fz,oH,WN,?_,ay m o us,?_,WY.ay o hv⟩⟩
   ·show jY.size=L.r7
    rw [← nD]
    have:=mQ (l:=cur.toList) (vs:=us) (o:=L.s+o) (by simp at k1 ⊢;omega)
    simpa [jY,ay] using this
   ·rw [mQ ho]
    have:=zq8 (us:=us) (o:=o) hm (by omega)
    simpa [jY,ay] using this
  ·cases hw
 ·cases hw

theorem OH (hs:bK ρ h w) (fk:ρ h.size=none) {W:World} {L:Loc} {b:bh} (hold:∀ k,k < w.heap.size→W.heap[k]? = w.heap[k]?) (dB:w.heap.size≤W.heap.size)
 (rR:W.os=w.os) (jD:W.tape=w.tape) (jA:W.output=w.output) (hL:w.heap.size≤L.b) (hb:∀ ρ',(∀ A L,ρ A=some L→ρ' A=some L)→og ρ' W L (some b)) :
 ∃ ρ',ρ' h.size=some L∧Fr ρ ρ' h (h.push b) w W∧bK ρ' (h.push b) W:=by
 have ea:∀ A L',ρ A=some L'→(fun A=>if A=h.size then some L else ρ A) A=some L':=by
  intro A L' hA
  have aO:A≠h.size:=fun e=>by rw [e,fk] at hA;cases hA
  simp only [if_neg aO]
  exact hA
 refine ⟨fun A=>if A=h.size then some L else ρ A,by simp,⟨ea,?_,rR,jD,jA,dB,by rw [Heap.size_push];omega,Nat.le_refl _,fun b hb _=>hold b hb,?_⟩,⟨?_,?_⟩⟩
 ·intro A L' hA hn
  split at hA
  ·rename_i e1;cases hA;exact ⟨by omega,by rw [Heap.size_push];omega,.inl hL⟩
  ·rw [hn] at hA;cases hA
 ·intro A hA _
  rw [Heap.bL,if_neg (by omega)]
 ·intro A L' hA
  rw [Heap.bL]
  split at hA
  ·rename_i e1
   cases hA
   rw [if_pos e1]
   exact hb _ ea
  ·rename_i e1
   rw [if_neg e1]
   exact (hs.jX A L' hA).keep ea dB fun _=>hold _ (hs.lt hA)
 ·intro A1 A2 L1 L2 h1 h2 aO kS
  have df:∀ A,A≠h.size→(h.push b).get A=h.get A:=fun A hA=>by rw [Heap.bL,if_neg hA]
  split at h1
  ·split at h2
   ·omega
   ·rename_i e1 e2
    cases h1
    have:=hs.lt h2
    omega
  ·split at h2
   ·rename_i e1 e2
    cases h2
    have:=hs.lt h1
    omega
   ·rename_i e1 e2
    unfold live lA
    rw [df A1 e1,df A2 e2]
    exact hs.inj A1 A2 L1 L2 h1 h2 aO kS

theorem zjb (hs:bK ρ h w) (fk:ρ h.size=none) {W:World} {cs m:List Value} {cur:Array Value} {e:TypeId} {fz:Nat × Nat} (nC:lV e cur.size fz) (hW:W.heap=w.heap.push (.cells cur e fz))
 (rR:W.os=w.os) (jD:W.tape=w.tape) (jA:W.output=w.output) (lh:cut cur.toList 0 cs.length=some m) (hv:cu ρ cs m) :
 ∃ ρ',ρ' h.size=some ⟨w.heap.size,0,cur.size⟩∧Fr ρ ρ' h (h.push (.row cs e false)) w W∧bK ρ' (h.push (.row cs e false)) W:=by
 refine OH hs fk (fun k hk=>by rw [hW,Array.getElem?_push,if_neg (by omega)]) (by rw [hW];simp) rR jD jA (Nat.le_refl _) fun ρ' hg=>?_
 exact ⟨cur,fz,by rw [hW];simp,nC,rfl,m,lh,hv.mono hg⟩
theorem Gb (hs:bK ρ h w) (fk:ρ h.size=none) {W:World} {cs m:List Value} {cur:Array Value} {e:TypeId} (hW:W.heap=w.heap.push (.cells cur e (0,0)))
 (rR:W.os=w.os) (jD:W.tape=w.tape) (jA:W.output=w.output) (lh:cut cur.toList 0 cs.length=some m) (hv:cu ρ cs m) :
 ∃ ρ',ρ' h.size=some ⟨w.heap.size,0,cur.size⟩∧Fr ρ ρ' h (h.push (.row cs e false)) w W∧bK ρ' (h.push (.row cs e false)) W :=
 zjb hs fk (.zero _ _) hW rR jD jA lh hv

theorem bK.same (hs:bK ρ h w) {W:World} (hW:W.heap=w.heap):bK ρ h W :=
 ⟨fun A L hA=>(hs.jX A L hA).keep (fun _ _ h=>h) (by rw [hW];exact Nat.le_refl _) (fun _=>by rw [hW]),hs.inj⟩
end
end Go.Am
namespace Go.Am
open Go.RowKit

theorem Yu (z:Array Value) (n:Nat):((Array.range (n*z.size)).map fun i=>z[i % z.size]!).toList=jo z.toList n:=by
 induction n with
 |zero=>simp [jo]
 |succ n ih =>
  have hr:Array.range ((n+1)*z.size)=Array.range (n*z.size)++(Array.range z.size).map (n*z.size+·):=by
   apply Array.ext'
   simp only [Array.toList_range,Array.toList_append,Array.toList_map,Nat.add_mul,Nat.one_mul,List.range_add]
  rw [hr,Array.map_append,Array.toList_append,ih]
  simp only [jo,List.replicate_succ',List.flatten_append,List.flatten_singleton]
  congr 1
  apply List.ext_getElem?
  intro i
  by_cases hi:i < z.size
  ·simp [hi,Nat.mod_eq_of_lt hi]
  ·simp [hi]

theorem zlB (z:List Value) (n:Nat):(jo z n).length=n*z.length:=by simp [jo]

theorem YL {z:List Value} (h:z.all kO=true) (n:Nat):(jo z n).all kO=true:=by
 simp only [jo,List.all_eq_true,List.mem_flatten,List.mem_replicate] at *
 rintro x ⟨l,⟨_,rfl⟩,hx⟩
 exact h x hx


section
variable {P:Program} {T:bD} {ρ:ct} {h h':Heap} {w:World}

theorem zhK {b o q:Nat} {m:List Value} (h:w.rangeAt b o m):w.rangeAt b o (m.take q):=by
 intro j v hv
 rw [List.getElem?_take] at hv
 split at hv
 ·exact h j v hv
 ·cases hv

theorem Og {b o k q n c:Nat} {m:List Value} (h:w.rangeAt b o m) (hl:m.length=q*k):(Builtin.firstCells k q (.slice (some ⟨b,o,none⟩) n c)).run P w=.ok m.toArray w :=
 run_firstCells_some w k q ⟨b,o,none⟩ n c m hl (fun j v hv=>by rw [Addr.add_mid];exact h j v hv)

theorem Yw (hs:bK ρ h w) {a:Option Addr} {n c k:Nat} {y:Value} {l:List Value} (cS:VR ρ (.slice a n c) y) (hc:lU (.slice a n c) k h=some l) :
 ∃ a' c' m,y=.slice a' n c'∧cu ρ l m∧m.length=n*k∧∀ W:World,W.heap=w.heap→∀ q,q≤n→(Builtin.firstCells k q y).run P W=.ok (m.take (q*k)).toArray W:=by
 have hzero:∀ (q:Nat) (ad:Addr) (c':Nat) (W:World),q*k=0→(Builtin.firstCells k q (.slice (some ad) n c')).run P W=.ok #[] W:=by
  intro q ad c' W hq
  simp [Builtin.firstCells,hq,loadCells,loadCellsFrom]
 have tX:∀ {A o:Nat} {L:Loc} {ad:Addr} {c':Nat},ρ A=some L→(n≠0→ad=⟨L.b,L.s+o,none⟩)→lU (.slice (some ⟨A,o,none⟩) n c) k h=some l →
  ∃ m,cu ρ l m∧m.length=n*k∧∀ W:World,W.heap=w.heap→∀ q,q≤n→(Builtin.firstCells k q (.slice (some ad) n c')).run P W=.ok (m.take (q*k)).toArray W:=by
  intro A o L ad c' hA eI hc
  simp only [lU] at hc
  split at hc
  ·rename_i h0
   cases hc
   refine ⟨[],.nil ρ,by simp [h0],fun W _ q hq=>?_⟩
   have h1:q*k=0:=by
    rcases Nat.mul_eq_zero.1 h0 with e|e
    ·have:q=0:=by omega
     simp [this]
    ·simp [e]
   rw [hzero q ad c' W h1]
   simp
  ·rename_i h0
   have hn:n≠0:=fun e=>h0 (by simp [e])
   obtain ⟨m,hm,hlen,hr⟩:=Ox hs hA hc
   refine ⟨m,hm,hlen,fun W hW q hq=>?_⟩
   rw [eI hn]
   have bo:W.rangeAt L.b (L.s+o) m:=fun j v hv=>(World.cell?_of_block (by rw [hW])).trans (hr j v hv)
   refine Og (zhK bo) ?_
   rw [List.length_take,hlen]
   exact Nat.min_eq_left (Nat.mul_le_mul_right _ hq)
 cases cS with
 |cY =>
  simp only [lU] at hc
  cases hc
  refine ⟨none,0,[],rfl,.nil ρ,by simp,fun W _ q hq=>?_⟩
  have:q=0:=by omega
  subst this
  simp [Builtin.firstCells]
 |slice hA tW hn eI =>
  obtain ⟨m,h1,h2,h3⟩:=tX hA (fun h0=>eI (by omega)) hc
  exact ⟨_,_,m,rfl,h1,h2,h3⟩
 |ck hA tW cR hn hk hm eI =>
  obtain ⟨m,h1,h2,h3⟩:=tX hA (fun h0=>(eI (by omega)).1) hc
  exact ⟨_,_,m,rfl,h1,h2,h3⟩

theorem zkL (hs:bK ρ h w) {x y:Value} {k m:Nat} {l:List Value} (cS:VR ρ x y) (hc:fI x k h=some (m,l)) :
 ∃ n,cu ρ l n∧n.length=m*k∧Builtin.lenOf y=pure m∧∀ W:World,W.heap=w.heap→∀ q,q≤m→(Builtin.firstCells k q y).run P W=.ok (n.take (q*k)).toArray W:=by
 cases x with
 |string b =>
  cases cS
  simp only [fI] at hc
  split at hc
  ·rename_i hk
   subst hk
   cases hc
   refine ⟨_,cu.plain ρ (by rw [List.all_eq_true];intro x hx;rw [List.mem_map] at hx;obtain ⟨u,_,rfl⟩:=hx;rfl),by simp,rfl,fun W _ q hq=>?_⟩
   simp only [Builtin.firstCells,Sem.run_pure,Nat.mul_one]
   congr 1
   apply Array.ext'
   have hd:(b.extract 0 q).data=b.data.extract 0 q:=by
    exact ByteArray.data_extract
   rw [hd]
   simp
  ·cases hc
 |slice a n c =>
  simp only [fI,Option.map_eq_some_iff,Prod.mk.injEq] at hc
  obtain ⟨l',hc,rfl,rfl⟩:=hc
  obtain ⟨a',c',m,rfl,h1,h2,h3⟩:=Yw (P:=P) hs cS hc
  exact ⟨m,h1,h2,rfl,h3⟩
 |_=>simp [fI] at hc

def M5 (P:Program) (u:TypeId):Prop:=(∃ e',P.underlying u=some (.slice e'))∨P.underlying u=some .string

theorem Yv {t u ty e:TypeId} {i:TypeInfo} (ht:P.underlying t=some (.slice e)) (hu:M5 P u) (hi:P.info? e=some i)
 {a:Addr} {n c m:Nat} {y:Value} {news:List Value} (hlen:Builtin.lenOf y=pure m) (hf:(Builtin.firstCells i.size m y).run P w=.ok news.toArray w) (gC:n+m≤c) {w':World}
 (eb:(storeCells (a.add (n*i.size)) news 0).run P w=.ok () w') :
 (Builtin.append_ #[t,u] ty #[.slice (some a) n c,y]).run P w=.ok (.slice (some a) (n+m) c) w':=by
 rcases hu with ⟨e',hd⟩|hd
 ·simp [Builtin.append_,run_underlying ht,run_underlying hd,sizeOf,typeInfo,hi,hlen,gC,hf,eb]
 ·simp [Builtin.append_,run_underlying ht,run_underlying hd,sizeOf,typeInfo,hi,hlen,gC,hf,eb]

theorem zji {t u ty e:TypeId} {i:TypeInfo} (ht:P.underlying t=some (.slice e)) (hu:M5 P u) (hi:P.info? e=some i)
 {a:Option Addr} {n c:Nat} {y:Value} (hlen:Builtin.lenOf y=pure 0) (hf:(Builtin.firstCells i.size 0 y).run P w=.ok #[] w) (gC:n≤c) :
 (Builtin.append_ #[t,u] ty #[.slice a n c,y]).run P w=.ok (.slice a n c) w:=by
 rcases hu with ⟨e',hd⟩|hd <;> cases a <;> simp [Builtin.append_,run_underlying ht,run_underlying hd,sizeOf,typeInfo,hi,hlen,gC,hf,storeCells]

theorem zh0 {t u ty e:TypeId} {i:TypeInfo} {z:Value} (ht:P.underlying t=some (.slice e)) (hu:M5 P u) (hi:P.info? e=some i) (hz:i.zero=some z)
 {base:Option Addr} {n c m:Nat} {y:Value} {Ku news:List Value} (hlen:Builtin.lenOf y=pure m) (hf:(Builtin.firstCells i.size m y).run P w.drew=.ok news.toArray w.drew)
 (ho:(Builtin.firstCells i.size n (.slice base n c)).run P w.drew=.ok Ku.toArray w.drew)
 (hg:c < n+m) (h63:n+m≤1152921504606846976) (ja:(n+m)*i.bytes≤140737488355328) :
 (Builtin.append_ #[t,u] ty #[.slice base n c,y]).run P w =
  .ok (.slice (some ⟨w.heap.size,0,none⟩) (n+m) (grownCap w (n+m) c e)) (w.drew.alloc (.cells ((Ku++news)++(Builtin.zeroCells z.cells (grownCap w (n+m) c e - (n+m))).toList).toArray e)):=by
 have hn:¬ (n+m≤c):=by omega
 have IK:¬ (9223372036854775807 < ((n:Int)+(m:Int))):=by omega
 have acQ:=growslice_fits hg ja
 have IJ:¬ (281474976710656 < Builtin.nextslicecap (n+m) c*i.bytes):=by omega
 rcases hu with ⟨e',hd⟩|hd
 ·simp [Builtin.append_,run_underlying ht,run_underlying hd,sizeOf,typeInfo,zeroValue,hi,hz,hlen,hn,IK,IJ,Question.forced,hf,ho,Go.newRow,grownCap]
  congr 2
  apply Array.ext'
  simp
 ·simp [Builtin.append_,run_underlying ht,run_underlying hd,sizeOf,typeInfo,zeroValue,hi,hz,hlen,hn,IK,IJ,Question.forced,hf,ho,Go.newRow,grownCap]
  congr 2
  apply Array.ext'
  simp

theorem zkl (hs:bK ρ h w) {A:Nat} {cs:List Value} {e:TypeId} (hg:h.get A=some (.row cs e false)) :
 Fr ρ ρ h (h.set A .dead) w w∧bK ρ (h.set A .dead) w:=by
 have rE:A < h.size:=Heap.bz hg
 refine ⟨⟨fun _ _ h=>h,fun A' L' h1 h2=>(by rw [h1] at h2;cases h2),rfl,rfl,rfl,Nat.le_refl _,Nat.le_refl _,Nat.min_le_left _ _,fun _ _ _=>rfl,?_⟩,⟨?_,?_⟩⟩
 ·intro A' dR hl
  rw [Heap.bX] at hl
  rw [Heap.aC _ _ _ _ rE,if_neg (by omega)]
 ·intro A' L' dR
  rw [Heap.aC _ _ _ _ rE]
  by_cases e':A'=A
  ·subst e'
   rw [if_pos rfl]
   exact hs.lt dR
  ·rw [if_neg e']
   exact hs.jX A' L' dR
 ·intro A1 A2 L1 L2 h1 h2 aO hb
  unfold live lA
  rw [Heap.aC _ _ _ _ rE,Heap.aC _ _ _ _ rE]
  by_cases e1:A1=A
  ·left;simp [e1]
  ·by_cases e2:A2=A
   ·right;left;simp [e2]
   ·rw [if_neg e1,if_neg e2]
    exact hs.inj A1 A2 L1 L2 h1 h2 aO hb

theorem zq7 {cur us:List Value} {s n:Nat} {m:List Value} (hc:cut cur s n=some m) (hl:s+n+us.length≤cur.length) :
 cut (ay cur (s+n) us) s (n+us.length)=some (m++us):=by
 obtain ⟨h1,h2,h3⟩:=q8 hc
 refine pH (by rw [mQ hl];omega) (by simp [h2]) fun i hi=>?_
 rw [bH _ _ _ _ hl,List.getElem?_append,h2]
 by_cases oL:i < n
 ·rw [if_pos oL,if_pos (by omega),h3 i oL]
 ·rw [if_neg oL,if_neg (by omega),if_pos (by omega)]
  congr 1
  omega

theorem zpx (hs:bK ρ h w) (fk:ρ h.size=none) {A o:Nat} {L:Loc} {cs en news us m:List Value} {e:TypeId} {cur:Array Value} {fz:Nat × Nat} (hA:ρ A=some L) (hg:h.get A=some (.row cs e false))
 (gG:w.heap[L.b]? = some (.cells cur e fz)) (nC:lV e cur.size fz) (nD:cur.size=L.r7) (hm:cut cur.toList (L.s+o) en.length=some m) (hv:cu ρ en m) (hn:cu ρ news us)
 (ja:L.s+o+en.length+us.length≤L.r7) :
 ∃ ρ',ρ' h.size=some ⟨L.b,L.s+o,L.r7⟩∧Fr ρ ρ' h ((h.set A .dead).push (.row (en++news) e false)) w (w.setRow L.b (ay cur.toList (L.s+o+en.length) us).toArray) ∧
   bK ρ' ((h.set A .dead).push (.row (en++news) e false)) (w.setRow L.b (ay cur.toList (L.s+o+en.length) us).toArray):=by
 have rE:A < h.size:=Heap.bz hg
 have ea:∀ A L',ρ A=some L'→(fun A=>if A=h.size then some (⟨L.b,L.s+o,L.r7⟩:Loc) else ρ A) A=some L':=by
  intro A L' hA
  have aO:A≠h.size:=fun e=>by rw [e,fk] at hA;cases hA
  simp only [if_neg aO]
  exact hA
 have oH:=setRow_heap w L.b cur (ay cur.toList (L.s+o+en.length) us).toArray e _ gG
 have gZ:∀ b,b≠L.b→(w.setRow L.b (ay cur.toList (L.s+o+en.length) us).toArray).heap[b]? = w.heap[b]? := fun b hb=>setRow_other w L.b b _ hb
 have dB:(w.setRow L.b (ay cur.toList (L.s+o+en.length) us).toArray).heap.size=w.heap.size:=by simp [World.setRow]
 have df:∀ j,((h.set A .dead).push (.row (en++news) e false)).get j=if j=h.size then some (.row (en++news) e false) else if j=A then some .dead else h.get j:=by
  intro j
  rw [Heap.bL,Heap.size_set,Heap.aC _ _ _ _ rE]
 have aO:∀ A' L',ρ A'=some L'→A'≠A→live h A'→L'.b≠L.b:=by
  intro A' L' dR e' iN heq
  rcases hs.inj A' A L' L dR hA e' heq with h1|h1|h1
  ·exact h1 iN
  ·exact h1 ⟨_,hg,by simp⟩
  ·obtain ⟨_,Nq,e2,pw⟩:=h1
   rw [hg] at pw
   cases pw
 refine ⟨fun A=>if A=h.size then some ⟨L.b,L.s+o,L.r7⟩ else ρ A,by simp,⟨ea,?_,rfl,rfl,rfl,by rw [dB];exact Nat.le_refl _,?_,Nat.min_le_left _ _,?_,?_⟩,⟨?_,?_⟩⟩
 ·intro A' L' dR Wo
  split at dR
  ·rename_i e1
   cases dR
   refine ⟨by omega,by rw [Heap.size_push,Heap.size_set];omega,.inr ⟨A,L,hA,rfl,?_,by rw [Heap.size_push,Heap.size_set];omega⟩⟩
   rw [Heap.dH,Heap.bX]
   omega
  ·rw [Wo] at dR;cases dR
 ·rw [Heap.size_push,Heap.size_set];omega
 ·intro b hb az
  refine gZ b fun e'=>?_
  subst e'
  have:=az A L hA rfl
  rw [Heap.dH,Heap.bX,Heap.size_push,Heap.size_set] at this
  omega
 ·intro A' dR hl
  rw [Heap.dH,Heap.bX] at hl
  rw [df,if_neg (by omega),if_neg (by omega)]
 ·intro A' L' dR
  rw [df]
  split at dR
  ·rename_i e1
   cases dR
   rw [if_pos e1]
   refine ⟨_,fz,oH,?_,?_,m++us,?_,(hv.append hn).mono ea⟩
   ·rw [List.size_toArray,mQ (by simp;omega)]
    simpa using nC
   ·show (ay cur.toList (L.s+o+en.length) us).toArray.size=L.r7
    rw [List.size_toArray,mQ (by simp;omega)]
    simpa using nD
   ·show cut (ay cur.toList (L.s+o+en.length) us) (L.s+o) (en++news).length=some (m++us)
    rw [List.length_append,hn.1]
    exact zq7 hm (by simp;omega)
  ·rename_i e1
   rw [if_neg e1]
   by_cases e2:A'=A
   ·rw [if_pos e2]
    show L'.b < _
    rw [dB]
    exact hs.lt dR
   ·rw [if_neg e2]
    exact (hs.jX A' L' dR).keep ea (by rw [dB];exact Nat.le_refl _) fun hl=>gZ L'.b (aO A' L' dR e2 hl)
 ·intro A1 A2 L1 L2 h1 h2 uB hb
  unfold live lA
  rw [df,df]
  have bw:∀ A' L',A'≠h.size→ρ A'=some L'→L.b=L'.b→¬ ∃ b,(if A'=A then some bh.dead else h.get A')=some b∧b≠.dead:=by
   intro A' L' hh dR kS
   by_cases e2:A'=A
   ·simp [e2]
   ·rw [if_neg e2]
    exact fun iN=>aO A' L' dR e2 iN kS.symm
  split at h1
  ·rename_i e1
   split at h2
   ·omega
   ·rename_i e2
    cases h1
    right;left
    rw [if_neg e2]
    exact bw A2 L2 e2 h2 hb
  ·rename_i e1
   split at h2
   ·rename_i e2
    cases h2
    left
    rw [if_neg e1]
    exact bw A1 L1 e1 h1 hb.symm
   ·rename_i e2
    rw [if_neg e1,if_neg e2]
    by_cases f1:A1=A
    ·left;simp [f1]
    ·by_cases f2:A2=A
     ·right;left;simp [f2]
     ·rw [if_neg f1,if_neg f2]
      exact hs.inj A1 A2 L1 L2 h1 h2 uB hb

theorem zP {k q:Nat} (hk:0 < k) (hG:q < G):G≤G*k+q∧(G*k+q) % G=q∧(G*k+q) / G=k:=by
 refine ⟨?_,?_,?_⟩
 ·calc G=G*1:=(Nat.mul_one _).symm
   _≤G*k:=Nat.mul_le_mul_left _ hk
   _≤G*k+q:=Nat.le_add_right _ _
 ·rw [Nat.mul_add_mod,Nat.mod_eq_of_lt hG]
 ·rw [Nat.mul_add_div (by unfold G;omega),Nat.div_eq_of_lt hG,Nat.add_zero]

theorem zgn (hT:T.Fits P) (hs:bK ρ h w) (bQ:eY ρ h h') {t u ty:TypeId} {s s' x x' v:Value} (hu:M5 P u) (vS:VR ρ s s') (hx:VR ρ x x') (ha:il T t s x h=some (v,h')) :
 ∃ ρ' vc w',(Builtin.append_ #[t,u] ty #[s',x']).run P w=.ok vc w'∧Fr ρ ρ' h h' w w'∧bK ρ' h' w'∧VR ρ' v vc:=by
 unfold il at ha
 split at ha
 ·rename_i e hd
  have ht:=hT.desc _ _ hd
  simp only [Option.bind_eq_some_iff,Prod.exists] at ha
  obtain ⟨k,bytes,z,fS,m,news,jd,ha⟩:=ha
  obtain ⟨i,zv,hi,rfl,rfl,hz,rfl,uP,qU⟩:=hT.info e k bytes z fS
  obtain ⟨us,jE,J8,hlen,dG⟩:=zkL (P:=P) hs hx jd
  have Ju:us.take (m*i.size)=us:=List.take_of_length_le (by omega)
  have hf:∀ W:World,W.heap=w.heap→(Builtin.firstCells i.size m x').run P W=.ok us.toArray W:=fun W hW=>by
   have:=dG W hW m (Nat.le_refl _)
   rwa [Ju] at this
  split at ha
  ·rename_i base n c
   split at ha
   ·rename_i hm
    subst hm
    cases ha
    have h0:=dG w rfl 0 (Nat.le_refl _)
    simp only [Nat.zero_mul,List.take_zero] at h0
    have key:∃ a' c',s'=.slice a' n c'∧n≤c':=by
     cases vS with
     |cY=>exact ⟨_,_,rfl,Nat.le_refl _⟩
     |slice hA hc hn eI=>exact ⟨_,_,rfl,hn⟩
     |ck hA hc cR hn hk hm eI=>exact ⟨_,_,rfl,by omega⟩
    obtain ⟨a',c',rfl,hn⟩:=key
    exact ⟨ρ,_,w,zji ht hu hi hlen h0 hn,Fr.refl _ _ _,hs,vS⟩
   ·rename_i hm
    split at ha
    ·cases ha
    ·rename_i Je
     simp only [Bool.or_eq_true,decide_eq_true_eq,Bool.not_eq_true',not_or,Bool.not_eq_false] at Je
     obtain ⟨⟨⟨qM,w5⟩,h60⟩,bw⟩:=Je
     have ur:0 < i.size:=by omega
     split at ha
     ·rename_i gC
      split at ha
      ·rename_i A o
       split at ha
       ·rename_i lL
        simp only [Option.map_eq_some_iff,Prod.mk.injEq] at ha
        obtain ⟨h1,FV,rfl,rfl⟩:=ha
        cases vS with
        |slice hA hc hn eI =>
         rename_i L ad
         obtain rfl:=eI (by have:=Nat.mod_eq_of_lt hc;omega)
         obtain ⟨w',eb,cN,dp⟩:=LZ (P:=P) hs hA jE FV
         have hcc:c % G=c:=Nat.mod_eq_of_lt hc
         rw [← Nat.add_assoc] at eb
         exact ⟨ρ,_,w',Yv ht hu hi hlen (hf w rfl) (by omega) (by rw [Addr.add_mid];exact eb),cN,dp,.slice hA hc (by omega) (fun _=>rfl)⟩
        |ck hA hc cR hn hk AL eI =>
         rename_i c' L ad
         obtain ⟨w',eb,cN,dp⟩:=LZ (P:=P) hs hA jE FV
         have pq:c'≠0:=by omega
         obtain ⟨rfl,ja⟩:=eI pq
         rw [← Nat.add_assoc] at eb
         exact ⟨ρ,_,w',Yv ht hu hi hlen (hf w rfl) (by omega) (by rw [Addr.add_mid];exact eb),cN,dp,.ck hA hc cR (by omega) hk AL (fun _=>⟨rfl,ja⟩)⟩
       ·cases ha
      ·cases ha
     ·rename_i gC
      simp only [Option.bind_eq_some_iff] at ha
      obtain ⟨en,hold,ha⟩:=ha
      obtain ⟨a',c',mo,rfl,WZ,JL,hfo⟩:=Yw (P:=P) hs vS hold
      have C6:mo.take (n*i.size)=mo:=List.take_of_length_le (by omega)
      have VY:∀ W:World,W.heap=w.heap→(Builtin.firstCells i.size n (.slice a' n c')).run P W=.ok mo.toArray W:=fun W hW=>by
       have:=hfo W hW n (Nat.le_refl _)
       rwa [C6] at this
      have iF:=zP (q:=n+m) ur (by unfold G;omega)
      /- a new row, on whatever plain heap -/
      have grown:∀ (h2:Heap),bK ρ h2 w→ρ h2.size=none→c' < n+m→∃ ρ' vc w',(Builtin.append_ #[t,u] ty #[.slice a' n c',x']).run P w=.ok vc w'∧Fr ρ ρ' h2 (h2.push (.row (en++news) e false)) w w'∧bK ρ' (h2.push (.row (en++news) e false)) w' ∧
       VR ρ' (.slice (some ⟨h2.size,0,none⟩) (n+m) (G*i.size+(n+m))) vc:=by
       intro h2 j7 Wp aS
       have hr:=zh0 (w:=w) (ty:=ty) ht hu hi hz hlen (hf w.drew rfl) (VY w.drew rfl) aS (by omega) (by omega)
       have lr:=grownCap_ge w (n+m) c' e
       have hle:=grownCap_le_maxLen w (n+m) c' e (by unfold maxLen;omega)
       have A8:zv.cells.size=i.size:=by rw [← Array.length_toList,uP]
       have JF:((mo++us)++(Builtin.zeroCells zv.cells (grownCap w (n+m) c' e - (n+m))).toList).length=grownCap w (n+m) c' e*i.size:=by
        simp only [List.length_append,JL,J8,Array.length_toList,size_zeroCells,A8,← Nat.add_mul]
        congr 1
        omega
       have Wh:(en++news).length=(mo++us).length:=by simp [WZ.1,jE.1]
       obtain ⟨ρ',hρ,cN,dp⟩:=Gb (W:=w.drew.alloc (.cells ((mo++us)++(Builtin.zeroCells zv.cells (grownCap w (n+m) c' e - (n+m))).toList).toArray e)) (cs:=en++news) (m:=mo++us) j7 Wp rfl rfl rfl rfl
        (by rw [Wh]
            refine pH (by simp) rfl fun j hj=>?_
            rw [Nat.zero_add]
            exact (List.getElem?_append_left (l₂:=(Builtin.zeroCells zv.cells (grownCap w (n+m) c' e - (n+m))).toList) hj).symm)
        (WZ.append jE)
       refine ⟨ρ',_,_,hr,cN,dp,?_⟩
       refine .ck hρ iF.1 (by rw [iF.2.1];exact lr) (by rw [iF.2.1];exact Nat.le_refl _) (by rw [iF.2.2];exact ur) hle (fun _=>⟨by simp,?_⟩)
       rw [iF.2.2]
       simp only [List.size_toArray,JF]
       omega
      split at ha
      ·rename_i hc
       cases ha
       have hcc:c % G=c:=Nat.mod_eq_of_lt hc
       have akB:c'=c:=by
        cases vS with
        |cY=>rfl
        |slice hA hc hn eI=>rfl
        |ck hA tW cR hn hk hm eI=>omega
       exact grown h hs (bQ _ (Nat.le_refl _) (by rw [Heap.size_push];omega)) (by omega)
      ·rename_i hc
       split at ha
       ·rename_i A o
        split at ha
        ·rename_i cs e' hg
         split at ha
         ·rename_i dn
          simp only [Bool.and_eq_true,decide_eq_true_eq] at dn
          obtain ⟨rfl,lL⟩:=dn
          cases ha
          cases vS with
          |slice hA tW hn eI=>omega
          |ck hA tW cR hn hk AL eI =>
           rename_i L ad
           by_cases aH:n+m≤c'
           ·have pq:c'≠0:=by omega
            obtain ⟨rfl,ja⟩:=eI pq
            have hb:=hs.jX A L hA
            rw [hg] at hb
            obtain ⟨cur,fz,gG,nC,nD,m0,xm,jF⟩:=hb
            obtain ⟨k1,k2,k3⟩:=q8 xm
            rw [lL] at ja
            have hmul:(n+m)*i.size≤c'*i.size:=Nat.mul_le_mul_right _ aH
            rw [Nat.add_mul] at hmul
            have AN:en.length=n*i.size:=by rw [WZ.1];exact JL
            have Jm:∃ mm,cut cur.toList (L.s+o) en.length=some mm∧cu ρ en mm:=by
             simp only [lU] at hold
             split at hold
             ·cases hold
              exact ⟨[],pH (by simp;omega) rfl (by intro i hi;simp at hi),.nil ρ⟩
             ·simp only [gL,hg] at hold
              obtain ⟨d,iE,sK⟩:=jF.cut hold
              obtain ⟨d1,d2,d3⟩:=q8 iE
              refine ⟨d,pH (by simp at k1 ⊢;omega) (by rw [AN];exact d2) (fun j hj=>?_),sK⟩
              rw [d3 j (by omega),k3 (o+j) (by omega),Nat.add_assoc]
            obtain ⟨mm,Wn,WY⟩:=Jm
            obtain ⟨ρ',hρ,cN,dp⟩:=zpx hs (bQ _ (Nat.le_refl _) (by rw [Heap.size_push,Heap.size_set];omega)) hA hg gG nC nD Wn WY jE (by omega)
            have eb:=Oh P L.b (L.s+o+en.length) e' fz us 0 cur w gG nC (by simp;omega) (jE.one bw)
            simp only [Nat.add_zero] at eb
            refine ⟨ρ',_,_,Yv ht hu hi hlen (hf w rfl) aH (by rw [Addr.add_mid,← AN];exact eb),cN,dp,?_⟩
            refine .ck hρ iF.1 (by rw [iF.2.1];exact aH) (by rw [iF.2.1];exact Nat.le_refl _) (by rw [iF.2.2];exact ur) AL (fun _=>⟨rfl,?_⟩)
            rw [iF.2.2]
            exact ja
           ·obtain ⟨Ft,Eb⟩:=zkl hs hg
            obtain ⟨ρ',vc,w',hr,lK,XB,kH⟩:=grown _ Eb (bQ _ (Nat.le_refl _) (by rw [Heap.size_push,Heap.size_set];omega)) (by omega)
            exact ⟨ρ',vc,w',hr,Ft.trans lK,XB,kH⟩
         ·cases ha
        ·cases ha
       ·cases ha
  ·cases ha
 ·cases ha

end
end Go.Am
namespace Go.Am
open Go.RowKit

theorem LR {α:Type} (P:Program):∀ (c:Sem α) (a:α),gF P c=some a→∀ w,c.run P w=.ok a w
 | .pure b,a,h,w=>by simp only [gF] at h;cases h;rfl
 | .program k,a,h,w=>by simp only [gF] at h;exact LR P (k P) a h w
 | .mark m k,a,h,w=>by simp only [gF] at h;exact LR P k a h w
 | .load ..,_,h,_=>by simp [gF] at h
 | .store ..,_,h,_=>by simp [gF] at h
 | .new ..,_,h,_=>by simp [gF] at h
 | .shape ..,_,h,_=>by simp [gF] at h
 | .freeze ..,_,h,_=>by simp [gF] at h
 | .frozen ..,_,h,_=>by simp [gF] at h
 | .getObj ..,_,h,_=>by simp [gF] at h
 | .setObj ..,_,h,_=>by simp [gF] at h
 | .choose ..,_,h,_=>by simp [gF] at h
 | .sys ..,_,h,_=>by simp [gF] at h
 | .halt ..,_,h,_=>by simp [gF] at h

section
variable {P:Program} {T:bD} {ρ:ct} {h h':Heap} {w:World}

theorem zps (hT:T.Fits P) {t:TypeId} {n:Nat} (hn:bO T t=some n):∃ i,P.info? t=some i∧i.size=n:=by
 simp only [bO,Option.map_eq_some_iff,Prod.exists] at hn
 obtain ⟨a,b,c,hi,rfl⟩:=hn
 obtain ⟨i,zv,h1,h2,_⟩:=hT.info t a b c hi
 exact ⟨i,h1,h2⟩

theorem se (hT:T.Fits P) {t:TypeId} {n:Nat} (hn:bO T t=some n) (w:World):(sizeOf t).run P w=.ok n w:=by
 obtain ⟨i,hi,rfl⟩:=zps hT hn
 simp [sizeOf,typeInfo,hi]

theorem zow (hT:T.Fits P) (hs:bK ρ h w) {t u ty:TypeId} {d d' s s' v:Value} (hd:VR ρ d d') (vS:VR ρ s s') (hc:Fa T t d s h=some (v,h')) :
 ∃ vc w',(Builtin.copy_ #[t,u] ty #[d',s']).run P w=.ok vc w'∧Fr ρ ρ h h' w w'∧bK ρ h' w'∧VR ρ v vc:=by
 unfold Fa at hc
 split at hc
 ·rename_i e a n c vO
  have ht:=hT.desc _ _ vO
  simp only [Option.bind_eq_some_iff,Prod.exists] at hc
  obtain ⟨k,hk,m,src,jd,hc⟩:=hc
  obtain ⟨us,jE,J8,hlen,dG⟩:=zkL (P:=P) hs vS jd
  have dB:=se hT hk w
  have hf:=dG w rfl (min m n) (Nat.min_le_left _ _)
  split at hc
  ·rename_i h0
   cases hc
   rw [h0] at hf
   simp only [Nat.zero_mul,List.take_zero] at hf
   have uA:Nat.min m n=0:=h0
   have key:∃ a' c',d'=.slice a' n c':=by cases hd <;> exact ⟨_,_,rfl⟩
   obtain ⟨a',c',rfl⟩:=key
   refine ⟨.int .i64 0,w,?_,Fr.refl _ _ _,hs,.int _ _⟩
   cases a' <;> simp [Builtin.copy_,run_underlying ht,hlen,uA,dB,hf,storeCells,goInt]
  ·rename_i h0
   have uA:Nat.min m n=min m n:=rfl
   split at hc
   ·rename_i A o
    simp only [Option.map_eq_some_iff,Prod.mk.injEq] at hc
    obtain ⟨h1,FV,rfl,rfl⟩:=hc
    have key:∃ L c',ρ A=some L∧d'=.slice (some ⟨L.b,L.s+o,none⟩) n c':=by
     cases hd with
     |slice hA hc hn eI =>
      obtain rfl:=eI (by omega)
      exact ⟨_,_,hA,rfl⟩
     |ck hA hc cR hn hk hm eI =>
      obtain ⟨rfl,_⟩:=eI (by omega)
      exact ⟨_,_,hA,rfl⟩
    obtain ⟨L,c',hA,rfl⟩:=key
    obtain ⟨w',eb,cN,dp⟩:=LZ (P:=P) hs hA (jE.take _) FV
    refine ⟨.int .i64 (min m n:Nat),w',?_,cN,dp,.int _ _⟩
    simp [Builtin.copy_,run_underlying ht,hlen,uA,dB,hf,eb,goInt]
   ·cases hc
 ·cases hc

theorem zmq (hT:T.Fits P) (hs:bK ρ h w) {t ty:TypeId} {x x':Value} (hx:VR ρ x x') (hc:nP T t x h=some h') :
 ∃ w',(Builtin.clear_ #[t] ty #[x']).run P w=.ok undef w'∧Fr ρ ρ h h' w w'∧bK ρ h' w':=by
 unfold nP at hc
 split at hc
 ·rename_i e a n c vO
  have ht:=hT.desc _ _ vO
  split at hc
  ·rename_i h0
   subst h0
   cases hc
   have key:∃ a' c',x'=.slice a' 0 c':=by cases hx <;> exact ⟨_,_,rfl⟩
   obtain ⟨a',c',rfl⟩:=key
   refine ⟨w,?_,Fr.refl _ _ _,hs⟩
   cases a' <;> simp [Builtin.clear_,run_underlying ht,undef]
  ·rename_i h0
   simp only [Option.bind_eq_some_iff,Prod.exists] at hc
   obtain ⟨k,sy,z,fS,hc⟩:=hc
   obtain ⟨i,zv,hi,rfl,rfl,hz,rfl,uP,qU⟩:=hT.info e k sy z fS
   split at hc
   ·rename_i A o
    have key:∃ L c',ρ A=some L∧x'=.slice (some ⟨L.b,L.s+o,none⟩) n c':=by
     cases hx with
     |slice hA hc hn eI =>
      obtain rfl:=eI (by omega)
      exact ⟨_,_,hA,rfl⟩
     |ck hA hc cR hn hk hm eI =>
      obtain ⟨rfl,_⟩:=eI (by omega)
      exact ⟨_,_,hA,rfl⟩
    obtain ⟨L,c',hA,rfl⟩:=key
    obtain ⟨w',eb,cN,dp⟩:=LZ (P:=P) hs hA (cu.plain ρ (YL qU n)) hc
    refine ⟨w',?_,cN,dp⟩
    have Xa:(Builtin.zeroCells zv.cells n).toList=jo zv.cells.toList n:=Yu zv.cells n
    obtain ⟨n',rfl⟩:∃ n',n=n'+1:=⟨n - 1,by omega⟩
    simp [Builtin.clear_,run_underlying ht,zeroValue,typeInfo,hi,hz,Xa,eb,undef]
   ·cases hc
 ·cases hc

theorem zhY (hT:T.Fits P) (hs:bK ρ h w) (bQ:eY ρ h h') {t:TypeId} {l l' c c' v:Value} (hl:VR ρ l l') (hc:VR ρ c c') (hm:Ek T t l c h=some (v,h')) :
 ∃ ρ' vc w',(Instr.makeSlice t l' c').run P w=.ok vc w'∧Fr ρ ρ' h h' w w'∧bK ρ' h' w'∧VR ρ' v vc:=by
 unfold Ek at hm
 split at hm
 ·rename_i e k1 l k2 c vO
  cases hl
  cases hc
  have ht:=hT.desc _ _ vO
  simp only [Option.bind_eq_some_iff,Prod.exists] at hm
  obtain ⟨k,sy,z,fS,hm⟩:=hm
  obtain ⟨i,zv,hi,rfl,rfl,hz,rfl,uP,qU⟩:=hT.info e k sy z fS
  split at hm
  ·rename_i hh
   obtain ⟨h0,hlc,h60,w5⟩:=hh
   cases hm
   have hr:=run_make (P:=P) w t e i zv ht hi hz k1 k2 l c h0 hlc (by rw [Int.mul_comm];omega) (by omega)
   have A8:zv.cells.size=i.size:=by rw [← Array.length_toList,uP]
   have uz:(madeCells zv.cells (c.toNat*i.size)).toList=jo zv.cells.toList c.toNat:=by
    rw [← A8]
    exact Yu zv.cells c.toNat
   obtain ⟨ρ',hρ,cN,dp⟩:=Gb (W:=w.alloc (.cells (madeCells zv.cells (c.toNat*i.size)) e)) (cs:=jo zv.cells.toList c.toNat) (m:=jo zv.cells.toList c.toNat) hs (bQ _ (Nat.le_refl _) (by rw [Heap.size_push];omega)) rfl rfl rfl rfl
    (by rw [uz];exact pH (by omega) rfl (fun j _=>by rw [Nat.zero_add])) (cu.plain ρ (YL qU _))
   refine ⟨ρ',_,_,hr,cN,dp,?_⟩
   have:=VR.slice (ρ:=ρ') (o:=0) (n:=l.toNat) (c:=c.toNat) hρ (by unfold G;omega) (by omega) (fun _=>rfl)
   simpa using this
  ·cases hm
 ·cases hm

theorem zku (off:Nat):∀ (l:List Value) (k:Nat) (cs:Array Value),off+k+l.length≤cs.size →
 ((l.zipIdx k).foldl (fun cs (x:Value × Nat)=>cs.setIfInBounds (off+x.2) x.1) cs).toList=ay cs.toList (off+k) l
 | [],k,cs,_=>by simp [ay]
 |v::l,k,cs,hl=>by
  simp only [List.zipIdx_cons,List.foldl_cons]
  have rO:off+k+(l.length+1)≤cs.size:=by simpa using hl
  rw [zku off l (k+1) _ (by simp;omega)]
  apply List.ext_getElem?
  intro i
  rw [bH _ _ _ _ (by simp;omega),bH _ _ _ _ (by simp;omega)]
  simp only [Array.toList_setIfInBounds,List.getElem?_set,List.length_cons,Array.length_toList]
  by_cases h1:i < off+k
  ·rw [if_pos h1,if_pos (by omega),if_neg (by omega)]
  ·rw [if_neg h1]
   by_cases h2:i=off+k
   ·subst h2
    rw [if_pos (by omega),if_pos rfl,if_pos (by omega),if_pos (by omega)]
    simp
   ·rw [if_neg (by omega)]
    by_cases h3:i < off+k+(l.length+1)
    ·rw [if_pos (by omega),if_pos h3]
     obtain ⟨j,rfl⟩:∃ j,i=off+k+1+j:=⟨i - (off+k+1),by omega⟩
     rw [show off+k+1+j - (off+(k+1))=j by omega,show off+k+1+j - (off+k)=j+1 by omega]
     simp
    ·rw [if_neg (by omega),if_neg h3,if_neg (by omega)]

theorem LV {place place':Nat→Option (Nat × Nat)} (hp:∀ i r,place i=some r→place' i=some r):∀ (parts dr:List (Nat × Value)) (cs nh:List Value) (ds:Array Value),
 parts.length=dr.length→(∀ (i:Nat) (x y:Nat × Value),parts[i]? = some x→dr[i]? = some y→x.1=y.1∧VR ρ x.2 y.2)→cu ρ cs ds.toList→lI place cs parts=some nh →
 ∃ Nr,Instr.fill place' ds dr=some Nr∧cu ρ nh Nr.toList
 | [],[],cs,nh,ds,_,_,hv,hf=>by
  simp only [lI] at hf
  cases hf
  exact ⟨ds,rfl,hv⟩
 |(i,v)::parts,(j,u)::dr,cs,nh,ds,hlen,az,hv,hf=>by
  obtain ⟨dh,lN⟩:=az 0 _ _ rfl rfl
  simp only at dh lN
  subst dh
  simp only [lI,Option.bind_eq_some_iff,Prod.exists] at hf
  obtain ⟨o,n,nB,hf⟩:=hf
  split at hf
  ·rename_i hc
   have Ax:u.cells.size=v.cells.size:=by have:=lN.cells.1;simpa using this.symm
   have qa:ds.size=cs.length:=by have:=hv.1;simpa using this.symm
   have Jt:=zku o u.cells.toList 0 ds (by simp;omega)
   have Jq:(u.cells.zipIdx.foldl (fun cs (x:Value × Nat)=>cs.setIfInBounds (o+x.2) x.1) ds).toList=ay ds.toList o u.cells.toList:=by
    rw [← Array.foldl_toList,Array.toList_zipIdx]
    simpa using Jt
   have J9:cu ρ (ay cs o v.cells.toList) (u.cells.zipIdx.foldl (fun cs (x:Value × Nat)=>cs.setIfInBounds (o+x.2) x.1) ds).toList:=by
    rw [Jq]
    exact hv.ay o lN.cells
   obtain ⟨Nr,ua,iE⟩:=LV hp parts dr _ nh _ (by simpa using hlen) (fun i x y hx hy=>az (i+1) x y (by simpa using hx) (by simpa using hy)) J9 hf
   refine ⟨Nr,?_,iE⟩
   simp only [Instr.fill,hp i _ nB]
   rw [if_neg (by simp;omega)]
   exact ua
  ·cases hf
 | [],_::_,_,_,_,hlen,_,_,_=>by simp at hlen
 |_::_,[],_,_,_,hlen,_,_,_=>by simp at hlen

theorem zgO (hT:T.Fits P):∀ (fs:List Field) (ps:List (Nat × Nat)) (w:World),Mw T fs=some ps→(fs.mapM fun f=>do pure (f.offset,← sizeOf f.type):Sem (List (Nat × Nat))).run P w=.ok ps w
 | [],ps,w,hp=>by simp only [Mw] at hp;cases hp;simp
 |f::fs,ps,w,hp=>by
  simp only [Mw,Option.bind_eq_some_iff,Option.map_eq_some_iff] at hp
  obtain ⟨n,hn,r,hr,rfl⟩:=hp
  rw [List.mapM_cons]
  simp only [Sem.run_bind,se hT hn,Result.andThen_ok,Sem.run_pure]
  have ih:=zgO hT fs r w hr
  rw [ih]
  rfl

theorem zmg (hT:T.Fits P) {t:TypeId} {parts dr:List (Nat × Value)} {v:Value} (hlen:parts.length=dr.length)
 (az:∀ (i:Nat) (x y:Nat × Value),parts[i]? = some x→dr[i]? = some y→x.1=y.1∧VR ρ x.2 y.2) (hb:nR T t parts=some v) (w:World) :
 ∃ vc,(Instr.build t dr.toArray).run P w=.ok vc w∧VR ρ v vc:=by
 simp only [nR,Option.bind_eq_some_iff,Prod.exists] at hb
 obtain ⟨k,sy,z,fS,hb⟩:=hb
 obtain ⟨i,zv,hi,rfl,rfl,hz,rfl,uP,qU⟩:=hT.info t k sy z fS
 split at hb
 ·rename_i fs hd
  have ht:=hT.desc _ _ hd
  simp only [Option.bind_eq_some_iff,Option.map_eq_some_iff] at hb
  obtain ⟨ps,FO,cs,hf,rfl⟩:=hb
  obtain ⟨ds,ua,iE⟩:=LV (ρ:=ρ) (place':=(ps.toArray[·]?)) (fun i r hr=>by simpa using hr) parts dr _ cs zv.cells hlen az (cu.plain ρ qU) hf
  refine ⟨.agg ds,?_,?_⟩
  ·have hm:=zgO hT fs.toList ps w FO
   have uy:(fs.mapM fun f=>do pure (f.offset,← sizeOf f.type):Sem (Array (Nat × Nat))).run P w=.ok ps.toArray w:=by
    rw [Array.mapM_eq_mapM_toList]
    simp only [Sem.run_map,hm,Result.andThen_ok]
   simp only [Instr.build,zeroValue,typeInfo,Sem.run_bind,run_program,Result.andThen_ok,hi,Sem.run_pure,hz,run_underlying ht,uy,ua]
  ·have:=iE.toArray
   simpa using this
 ·rename_i n e hd
  have ht:=hT.desc _ _ hd
  simp only [Option.bind_eq_some_iff,Option.map_eq_some_iff] at hb
  obtain ⟨k,hk,cs,hf,rfl⟩:=hb
  obtain ⟨ds,ua,iE⟩:=LV (ρ:=ρ) (place':=fun i=>some (i*k,k)) (fun i r hr=>hr) parts dr _ cs zv.cells hlen az (cu.plain ρ qU) hf
  refine ⟨.agg ds,?_,?_⟩
  ·simp only [Instr.build,zeroValue,typeInfo,Sem.run_bind,run_program,Result.andThen_ok,hi,Sem.run_pure,hz,run_underlying ht,se hT hk,ua]
  ·have:=iE.toArray
   simpa using this
 ·cases hb

theorem zg0 (hT:T.Fits P) (hs:bK ρ h w) (bQ:eY ρ h h') {t:TypeId} {len:Nat} {parts dr:List (Nat × Value)} {v:Value} (hlen:parts.length=dr.length)
 (az:∀ (i:Nat) (x y:Nat × Value),parts[i]? = some x→dr[i]? = some y→x.1=y.1∧VR ρ x.2 y.2) (hb:lQ T t len parts h=some (v,h')) :
 ∃ ρ' vc w',(Instr.buildSlice t len dr.toArray).run P w=.ok vc w'∧Fr ρ ρ' h h' w w'∧bK ρ' h' w'∧VR ρ' v vc:=by
 unfold lQ at hb
 split at hb
 ·rename_i e hd
  have ht:=hT.desc _ _ hd
  simp only [Option.bind_eq_some_iff,Prod.exists] at hb
  obtain ⟨k,sy,z,fS,hb⟩:=hb
  obtain ⟨i,zv,hi,rfl,rfl,hz,rfl,uP,qU⟩:=hT.info e k sy z fS
  split at hb
  ·cases hb
  ·rename_i WI
   simp only [Bool.or_eq_true,decide_eq_true_eq,not_or] at WI
   obtain ⟨WI,akd⟩:=WI
   have hG:len < G:=by unfold G;omega
   simp only [Option.map_eq_some_iff,Prod.mk.injEq] at hb
   obtain ⟨cs,hf,rfl,rfl⟩:=hb
   have A8:zv.cells.size=i.size:=by rw [← Array.length_toList,uP]
   by_cases h0:len*i.size=0
   ·have Ke:jo zv.cells.toList len=[]:=by
     apply List.eq_nil_of_length_eq_zero
     rw [zlB,uP]
     exact h0
    rw [Ke] at hf
    obtain ⟨ds,ua,iE⟩:=LV (ρ:=ρ) (place':=fun j=>some (j*i.size,i.size)) (fun i r hr=>hr) parts dr _ cs #[] hlen az (.nil ρ) hf
    obtain ⟨ρ',hρ,cN,dp⟩:=Gb (W:=w.alloc (.cells ds e)) (cs:=cs) (m:=ds.toList) hs (bQ _ (Nat.le_refl _) (by rw [Heap.size_push];omega)) rfl rfl rfl rfl (by rw [iE.1];exact pH (by omega) rfl (fun j _=>by rw [Nat.zero_add])) iE
    refine ⟨ρ',.slice (some ⟨w.heap.size,0,none⟩) len len,w.alloc (.cells ds e),?_,cN,dp,?_⟩
    ·have J3:¬ (16777216 < len*i.size):=by omega
     simp [Instr.buildSlice,run_underlying ht,sizeOf,typeInfo,hi,h0,Array.range_zero',ua,Go.newRow]
    ·have:=VR.slice (ρ:=ρ') (o:=0) (n:=len) (c:=len) hρ hG (Nat.le_refl _) (fun _=>rfl)
     simpa using this
   ·have uz:((Array.range (len*i.size)).map (zv.cells[· % zv.cells.size]!)).toList=jo zv.cells.toList len:=by
     have:=Yu zv.cells len
     simp only [A8] at this ⊢
     exact this
    obtain ⟨ds,ua,iE⟩:=LV (ρ:=ρ) (place':=fun j=>some (j*i.size,i.size)) (fun i r hr=>hr) parts dr _ cs ((Array.range (len*i.size)).map (zv.cells[· % zv.cells.size]!)) hlen az
     (by rw [uz];exact cu.plain ρ (YL qU _)) hf
    obtain ⟨ρ',hρ,cN,dp⟩:=Gb (W:=w.alloc (.cells ds e)) (cs:=cs) (m:=ds.toList) hs (bQ _ (Nat.le_refl _) (by rw [Heap.size_push];omega)) rfl rfl rfl rfl (by rw [iE.1];exact pH (by omega) rfl (fun j _=>by rw [Nat.zero_add])) iE
    refine ⟨ρ',.slice (some ⟨w.heap.size,0,none⟩) len len,w.alloc (.cells ds e),?_,cN,dp,?_⟩
    ·have J3:¬ (16777216 < len*i.size):=by omega
     simp only [Instr.buildSlice,Sem.run_bind,run_underlying ht,Result.andThen_ok,sizeOf,typeInfo,run_program,hi,Sem.run_pure,gt_iff_lt]
     simp [J3,h0,zeroValue,typeInfo,hi,hz,ua,Go.newRow]
    ·have:=VR.slice (ρ:=ρ') (o:=0) (n:=len) (c:=len) hρ hG (Nat.le_refl _) (fun _=>rfl)
     simpa using this
 ·cases hb

end
end Go.Am
namespace Go.Am
open Go.RowKit

section
variable {P:Program} {T:bD} {ρ:ct} {h h':Heap} {w:World}

theorem OD {x y:Value} {hi i:Nat} (cS:VR ρ x y) (hb:vA x hi=some i) {oL:Nat} (hle:hi≤oL) (code:BoundsCode) (w:World):(Instr.sliceBound y oL code).run P w=.ok i w∧i≤hi:=by
 cases cS with
 |int k n =>
  simp only [vA] at hb
  split at hb
  ·rename_i hc
   cases hb
   have tW:0≤n∧n≤(oL:Int):=⟨hc.1,by omega⟩
   exact ⟨by simp [Instr.sliceBound,asIntOf,tW],by omega⟩
  ·cases hb
 |_=>simp [vA] at hb

def pM (ρ:ct):Option Value→Option Value→Prop
 |none,none=>True
 |some x,some y=>VR ρ x y
 |_,_=>False

theorem LU {len cap Cs l' h' m':Nat} {l h m ll hh mm:Option Value} (hl:pM ρ l ll) (uh:pM ρ h hh) (hm:pM ρ m mm) (hb:pF len cap l h m=some (l',h',m')) (hlen:len≤cap) (pX:cap≤Cs) (n6:Bool) (w:World) :
 (Instr.sliceBounds n6 len Cs ll hh mm).run P w=.ok (l',h',if m.isSome then m' else Cs) w∧l'≤h'∧h'≤m'∧m'≤cap:=by
 simp only [pF,Option.bind_eq_some_iff,Option.some.injEq,Prod.mk.injEq] at hb
 obtain ⟨m1,gH,h1,vP,l1,eN,rfl,rfl,rfl⟩:=hb
 have uW:∀ (code:BoundsCode),(match ll with|some v=>Instr.sliceBound v h1 code|none=>(pure 0:Sem Nat)).run P w=.ok l1 w∧l1≤h1:=by
  intro code
  cases l with
  |none=>cases ll with
   |none=>simp only [Option.some.injEq] at eN;subst eN;exact ⟨rfl,Nat.zero_le _⟩
   |some v=>exact hl.elim
  |some x=>cases ll with
   |none=>exact hl.elim
   |some v=>exact OD hl eN (Nat.le_refl _) code w
 cases m with
 |none =>
  cases mm with
  |some v=>exact hm.elim
  |none =>
   simp only [Option.some.injEq] at gH
   subst gH
   cases h with
   |none=>cases hh with
    |some v=>exact uh.elim
    |none =>
     simp only [Option.some.injEq] at vP
     subst vP
     obtain ⟨k1,k2⟩:=uW .sliceB
     refine ⟨?_,k2,hlen,Nat.le_refl _⟩
     simp only [Instr.sliceBounds,Sem.run_bind,Sem.run_pure,Result.andThen_ok,Option.isSome_none,Bool.false_eq_true,if_false]
     cases ll with
     |none =>
      have e:l1=0:=by have:=k1;simp at this;exact this.symm
      simp [e]
     |some u =>
      have e:(Instr.sliceBound u len .sliceB).run P w=.ok l1 w:=k1
      simp only [Sem.run_bind,e,Result.andThen_ok,Sem.run_pure]
   |some x=>cases hh with
    |none=>exact uh.elim
    |some v =>
     have Au:=OD (P:=P) uh vP pX (if n6 then BoundsCode.sliceAcap else .sliceAlen) w
     obtain ⟨k1,k2⟩:=uW .sliceB
     refine ⟨?_,k2,Au.2,Nat.le_refl _⟩
     simp only [Instr.sliceBounds,Sem.run_bind,Sem.run_pure,Result.andThen_ok,Option.isSome_none,Bool.false_eq_true,if_false,Au.1]
     cases ll with
     |none =>
      have e:l1=0:=by have:=k1;simp at this;exact this.symm
      simp [e]
     |some u =>
      have e:(Instr.sliceBound u h1 .sliceB).run P w=.ok l1 w:=k1
      simp only [Sem.run_bind,e,Result.andThen_ok,Sem.run_pure]
 |some q =>
  cases mm with
  |none=>exact hm.elim
  |some v =>
   have hbm:=OD (P:=P) hm gH pX (if n6 then BoundsCode.slice3Acap else .slice3Alen) w
   cases h with
   |none=>cases vP
   |some x=>cases hh with
    |none=>exact uh.elim
    |some v' =>
     have Au:=OD (P:=P) uh vP (Nat.le_refl _) BoundsCode.slice3B w
     obtain ⟨k1,k2⟩:=uW .slice3C
     refine ⟨?_,k2,Au.2,hbm.2⟩
     simp only [Instr.sliceBounds,Sem.run_bind,Result.andThen_ok,Option.isSome_some,if_true,hbm.1,Au.1]
     cases ll with
     |none =>
      have e:l1=0:=by have:=k1;simp at this;exact this.symm
      simp [e]
     |some u =>
      have e:(Instr.sliceBound u h1 .slice3C).run P w=.ok l1 w:=k1
      simp only [Sem.run_bind,e,Result.andThen_ok,Sem.run_pure]

theorem znO (hT:T.Fits P) {t:TypeId} {x y v:Value} {l hi m ll hh mm:Option Value} (cS:VR ρ x y) (hl:pM ρ l ll) (uh:pM ρ hi hh) (hm:pM ρ m mm) (hs:kf T t x l hi m=some v) (w:World) :
 ∃ vc,(Instr.sliceAt t y ll hh mm).run P w=.ok vc w∧VR ρ v vc:=by
 unfold kf at hs
 split at hs
 ·rename_i s hd
  cases cS
  have ht:=hT.desc _ _ hd
  split at hs
  ·cases hs
  ·rename_i NH
   have xm:m=none:=by cases m <;> simp_all
   subst xm
   have Wn:mm=none:=by cases mm with|none=>rfl|some _=>exact hm.elim
   subst Wn
   simp only [Option.map_eq_some_iff,Prod.exists] at hs
   obtain ⟨l',h',m',hb,rfl⟩:=hs
   obtain ⟨k1,k2,k3,k4⟩:=LU (P:=P) (m:=none) (mm:=none) hl uh trivial hb (Nat.le_refl _) (Nat.le_refl _) false w
   refine ⟨_,?_,.string _⟩
   simp [Instr.sliceAt,Instr.slice,run_underlying ht,k1]
 ·rename_i n e A o hd
  cases cS with
  |ptr hA =>
   rename_i L
   have ht:=hT.desc _ _ hd
   simp only [Option.bind_eq_some_iff,Option.map_eq_some_iff,Prod.exists] at hs
   obtain ⟨l',h',m',hb,k,hk,rfl⟩:=hs
   have hnG:n < G:=by
    rcases Nat.lt_or_ge n G with aS|lr
    ·exact aS
    ·rw [if_neg (by omega)] at hb;cases hb
   rw [if_pos hnG] at hb
   obtain ⟨k1,k2,k3,k4⟩:=LU (P:=P) hl uh hm hb (Nat.le_refl _) (Nat.le_refl _) false w
   have xl:(if m.isSome then m' else n)=m':=by
    cases m with
    |some _=>rfl
    |none =>
     simp only [pF,Option.bind_eq_some_iff,Option.some.injEq,Prod.mk.injEq] at hb
     obtain ⟨m1,gH,h1,vP,l1,eN,rfl,rfl,rfl⟩:=hb
     simp [gH]
   rw [xl] at k1
   have dB:=se hT hk w
   refine ⟨.slice (some (if m'=l' then ⟨L.b,L.s+o,none⟩ else (⟨L.b,L.s+o,none⟩:Addr).add (l'*k))) (h' - l') (m' - l'),?_,?_⟩
   ·simp only [Instr.sliceAt,Sem.run_bind,run_underlying ht,Result.andThen_ok,Instr.sureAddr,Sem.run_pure,k1,dB]
   ·by_cases hG:m' - l' < G
    ·refine .slice hA hG (by omega) (fun h0=>?_)
     rw [if_neg (by omega),if_neg (by omega),Addr.add_mid,Nat.add_assoc]
    ·exfalso
     omega
 ·rename_i e a n c hd
  have ht:=hT.desc _ _ hd
  simp only [Option.bind_eq_some_iff] at hs
  obtain ⟨k,hk,hs⟩:=hs
  have dB:=se hT hk w
  split at hs
  ·rename_i hcG
   simp only [Option.bind_eq_some_iff,Prod.exists] at hs
   obtain ⟨l',h',m',hb,hs⟩:=hs
   have xl:(if m.isSome then m' else c)=m':=by
    cases m with
    |some _=>rfl
    |none =>
     simp only [pF,Option.bind_eq_some_iff,Option.some.injEq,Prod.mk.injEq] at hb
     obtain ⟨m1,gH,h1,vP,l1,eN,rfl,rfl,rfl⟩:=hb
     simp [gH]
   cases cS with
   |cY =>
    obtain ⟨k1,k2,k3,k4⟩:=LU (P:=P) hl uh hm hb (Nat.le_refl _) (Nat.le_refl _) true w
    rw [xl] at k1
    simp only [Option.some.injEq] at hs
    subst hs
    have e1:h' - l'=0:=by omega
    have e2:m' - l'=0:=by omega
    refine ⟨.slice none (h' - l') (m' - l'),?_,by rw [e1,e2];exact .cY⟩
    simp [Instr.sliceAt,Instr.slice,run_underlying ht,k1,dB]
   |slice hA hc hn eI =>
    rename_i A o L ad
    obtain ⟨k1,k2,k3,k4⟩:=LU (P:=P) hl uh hm hb hn (Nat.le_refl _) true w
    rw [xl] at k1
    simp only [Option.some.injEq] at hs
    subst hs
    refine ⟨.slice (if m'=l' then some ad else some (ad.add (l'*k))) (h' - l') (m' - l'),?_,?_⟩
    ·simp [Instr.sliceAt,Instr.slice,run_underlying ht,k1,dB]
    ·have hx:(if m'=l' then some ad else some (ad.add (l'*k)))=some (if m'=l' then ad else ad.add (l'*k)):=by split <;> rfl
     rw [hx]
     refine .slice hA (by omega) (by omega) (fun h0=>?_)
     rw [if_neg (by omega),if_neg (by omega),eI (by omega),Addr.add_mid,Nat.add_assoc]
   |ck hA hc cR hn kF AL eI=>omega
  ·rename_i hcG
   split at hs
   ·rename_i A o
    split at hs
    ·rename_i lL
     simp only [Option.map_eq_some_iff,Prod.exists] at hs
     obtain ⟨l',h',m',hb,rfl⟩:=hs
     cases cS with
     |slice hA hc hn eI=>omega
     |ck hA hc cR hn kF AL eI =>
      rename_i c' L ad
      obtain ⟨k1,k2,k3,k4⟩:=LU (P:=P) hl uh hm hb hn cR true w
      cases m with
      |some q =>
       simp only [Option.isSome_some,if_true] at k1
       refine ⟨.slice (if m'=l' then some ad else some (ad.add (l'*k))) (h' - l') (m' - l'),?_,?_⟩
       ·simp [Instr.sliceAt,Instr.slice,run_underlying ht,k1,dB]
       ·have hx:(if m'=l' then some ad else some (ad.add (l'*k)))=some (if m'=l' then ad else ad.add (l'*k)):=by split <;> rfl
        rw [hx]
        have aS:c % G < G:=Nat.mod_lt _ (by unfold G;omega)
        refine .slice hA (by omega) (by omega) (fun h0=>?_)
        rw [if_neg (by omega),if_neg (by omega),(eI (by omega)).1,Addr.add_mid,Nat.add_assoc]
      |none =>
       simp only [Option.isSome_none,Bool.false_eq_true,if_false] at k1
       have gH:m'=c % G:=by
        simp only [pF,Option.bind_eq_some_iff,Option.some.injEq,Prod.mk.injEq] at hb
        obtain ⟨m1,gH,h1,vP,l1,eN,rfl,rfl,rfl⟩:=hb
        exact gH.symm
       subst gH
       refine ⟨.slice (if c'=l' then some ad else some (ad.add (l'*k))) (h' - l') (c' - l'),?_,?_⟩
       ·simp [Instr.sliceAt,Instr.slice,run_underlying ht,k1,dB]
       ·have hx:(if c'=l' then some ad else some (ad.add (l'*k)))=some (if c'=l' then ad else ad.add (l'*k)):=by split <;> rfl
        rw [hx]
        have aS:c % G < G:=Nat.mod_lt _ (by unfold G;omega)
        have iF:=zP (k:=k) (q:=c % G - l') (by omega) (by omega)
        refine .ck hA iF.1 (by rw [iF.2.1];omega) (by rw [iF.2.1];omega) (by rw [iF.2.2];omega) (by omega) (fun h0=>?_)
        obtain ⟨rfl,ja⟩:=eI (by omega)
        rw [if_neg (by omega),Addr.add_mid,iF.2.2]
        refine ⟨by rw [Nat.add_assoc],?_⟩
        rw [lL] at ja
        have e1:c'*k=l'*k+(c' - l')*k:=by rw [← Nat.add_mul];congr 1;omega
        omega
    ·cases hs
   ·cases hs
 ·cases hs

theorem zhX (hT:T.Fits P) {t:TypeId} {x y i j v:Value} (cS:VR ρ x y) (dh:VR ρ i j) (hs:fM T t x i=some v) (w:World) :
 ∃ vc,(Instr.indexAt t y j).run P w=.ok vc w∧VR ρ v vc:=by
 unfold fM at hs
 split at hs
 ·rename_i k i
  cases dh
  split at hs
  ·rename_i n e A o hd
   cases cS with
   |ptr hA =>
    rename_i L
    have ht:=hT.desc _ _ hd
    split at hs
    ·rename_i hi
     simp only [Option.map_eq_some_iff] at hs
     obtain ⟨q,hq,rfl⟩:=hs
     refine ⟨.pointer (some ⟨L.b,L.s+(o+i.toNat*q),none⟩),?_,.ptr hA⟩
     simp [Instr.indexAt,asIntOf,run_underlying ht,Instr.sureAddr,hi,se hT hq,Addr.add_mid,Nat.add_assoc]
    ·cases hs
  ·rename_i e A o n c hd
   have ht:=hT.desc _ _ hd
   split at hs
   ·rename_i hi
    simp only [Option.map_eq_some_iff] at hs
    obtain ⟨q,hq,rfl⟩:=hs
    have key:∃ L c',ρ A=some L∧y=.slice (some ⟨L.b,L.s+o,none⟩) n c':=by
     cases cS with
     |slice hA hc hn eI =>
      obtain rfl:=eI (by omega)
      exact ⟨_,_,hA,rfl⟩
     |ck hA hc cR hn hk hm eI =>
      obtain ⟨rfl,_⟩:=eI (by omega)
      exact ⟨_,_,hA,rfl⟩
    obtain ⟨L,c',hA,rfl⟩:=key
    refine ⟨.pointer (some ⟨L.b,L.s+(o+i.toNat*q),none⟩),?_,.ptr hA⟩
    simp [Instr.indexAt,asIntOf,run_underlying ht,hi,se hT hq,Addr.add_mid,Nat.add_assoc]
   ·cases hs
  ·cases hs
 ·cases hs

theorem zhW (hT:T.Fits P) {t:TypeId} {x y v:Value} {f:Nat} (cS:VR ρ x y) (hs:cV T t x f=some v) (w:World) :
 ∃ vc,(Instr.fieldAt t y f).run P w=.ok vc w∧VR ρ v vc:=by
 unfold cV at hs
 split at hs
 ·rename_i fs A o hd
  cases cS with
  |ptr hA =>
   rename_i L
   have ht:=hT.desc _ _ hd
   simp only [Option.bind_eq_some_iff] at hs
   obtain ⟨fl,hf,n,hn,hs⟩:=hs
   split at hs
   ·cases hs
   ·rename_i h0
    cases hs
    refine ⟨.pointer (some ⟨L.b,L.s+(o+fl.offset),none⟩),?_,.ptr hA⟩
    simp [Instr.fieldAt,run_underlying ht,hf,Instr.sureAddr,fieldPlace,se hT hn,h0,Addr.add_mid,Nat.add_assoc]
 ·cases hs

theorem zi2 (hT:T.Fits P) {t:TypeId} {cs:List Value} {ds:Array Value} {o:Nat} {v:Value} (hv:cu ρ cs ds.toList) (hs:aP T t cs o=some v) (w:World) :
 ∃ vc,(part t ds o).run P w=.ok vc w∧VR ρ v vc:=by
 simp only [aP,aq,Option.bind_eq_some_iff,Option.map_eq_some_iff] at hs
 obtain ⟨g,⟨d,hd,hg⟩,hs⟩:=hs
 have ht:=hT.desc _ _ hd
 have np:(isAgg t).run P w=.ok g w:=by
  unfold isAgg
  rw [Sem.run_bind,run_underlying ht w]
  cases d <;> simp_all
 cases g with
 |true =>
  simp only [if_true,Option.bind_eq_some_iff,Option.map_eq_some_iff] at hs
  obtain ⟨n,hn,l,hl,rfl⟩:=hs
  obtain ⟨d',mc,sK⟩:=hv.cut hl
  refine ⟨.agg d'.toArray,?_,sK.toArray⟩
  have hx:ds.extract o (o+n)=d'.toArray:=by
   unfold cut at mc
   split at mc
   ·cases mc
    apply Array.ext'
    simp [List.take_drop]
   ·cases mc
  simp [part,np,se hT hn,hx]
 |false =>
  simp only [Bool.false_eq_true,if_false] at hs
  obtain ⟨u,hu,lN⟩:=hv.get hs
  refine ⟨u,?_,lN⟩
  have vU:ds[o]? = some u:=by simpa using hu
  simp [part,np,vU]

theorem zmR (hT:T.Fits P) {t:TypeId} {x y v:Value} {f:Nat} (cS:VR ρ x y) (hs:BC T t x f=some v) (w:World) :
 ∃ vc,(Instr.field t y f).run P w=.ok vc w∧VR ρ v vc:=by
 unfold BC at hs
 split at hs
 ·rename_i fs cs hd
  have ht:=hT.desc _ _ hd
  simp only [Option.bind_eq_some_iff] at hs
  obtain ⟨fl,hf,hs⟩:=hs
  cases cS with
  |agg hc hh =>
   rename_i ds
   obtain ⟨vc,hr,hv⟩:=zi2 hT (VR.agg hc hh).B6 hs w
   refine ⟨vc,?_,hv⟩
   simp [Instr.field,run_underlying ht,hf,asAgg,hr]
 ·cases hs

theorem zk2 {op:BinOp} {t:TypeId} {x y v:Value} (hs:pE op x y=some v):gF P (binOp op t x y)=some v∧plain x=true∧plain y=true∧plain v=true∧(∃ k a,x=.int k a):=by
 unfold pE at hs
 split at hs <;> first|(cases hs;done)|(split at hs <;> first|(cases hs;done)|(rename_i hk;subst hk;cases hs;exact ⟨by simp [binOp,Op.intArith,Op.intCmp,gF,pure],rfl,rfl,rfl,_,_,rfl⟩))

theorem zoD {t:TypeId} {d:TypeDesc} (hd:P.underlying t=some d) {x y x' y':Value} {b:Bool} (hx:VR ρ x x') (hy:VR ρ y y') (he:BM d x y=some b) (w:World) :
 (Op.equal t x' y').run P w=.ok b w∧∀ (op:BinOp),op=.eql∨op=.neq→binOp op t x' y'=(if op=.eql then (do pure (.bool (← Op.equal t x' y'))) else (do pure (.bool (!(← Op.equal t x' y'))))):=by
 have key:(∀ d0:Nat,(Op.equalIn (d0+1) t x' y').run P w=.ok b w)∧∀ (op:BinOp),op=.eql∨op=.neq→binOp op t x' y'=(if op=.eql then (do pure (.bool (← Op.equal t x' y'))) else (do pure (.bool (!(← Op.equal t x' y'))))):=by
  unfold BM at he
  split at he <;> first
   |(cases he;done)
   |(cases hx <;> cases hy <;> simp at he <;> subst he <;> exact ⟨fun d0=>by simp [Op.equalIn,run_underlying hd],by rintro op (rfl|rfl) <;> rfl⟩)
 exact ⟨key.1 9999,key.2⟩

theorem Oy (op:BinOp) (t:TypeId) (x y:Operand) (a b:Value) (ha:a≠.nilIface) (np:∀ c d,a=.agg c→b=.agg d→P.eqGuardType P.depth t=false) (w:World):(eqGuard op t x y a b).run P w=.ok () w:=by
 unfold eqGuard
 cases op <;> simp only [Bool.not_true,Bool.not_false,if_true,if_false,Bool.false_eq_true] <;> try rfl
 all_goals
  cases a <;> first|exact (ha rfl).elim|skip
 all_goals
  cases b <;> first|rfl|skip
 all_goals
  simp [np _ _ rfl rfl]

theorem Gj (hT:T.Fits P) {t:TypeId} {cs:Array Value} {o:Nat} {v:Value} (hs:aP T t cs.toList o=some v) (w:World):(part t cs o).run P w=.ok v w:=by
 simp only [aP,aq,Option.bind_eq_some_iff,Option.map_eq_some_iff] at hs
 obtain ⟨g,⟨d,hd,hg⟩,hs⟩:=hs
 have ht:=hT.desc _ _ hd
 have np:(isAgg t).run P w=.ok g w:=by
  unfold isAgg
  rw [Sem.run_bind,run_underlying ht w]
  cases d <;> simp_all
 cases g with
 |true =>
  simp only [if_true,Option.bind_eq_some_iff,Option.map_eq_some_iff] at hs
  obtain ⟨n,hn,l,hl,rfl⟩:=hs
  have hx:cs.extract o (o+n)=l.toArray:=by
   unfold cut at hl
   split at hl
   ·cases hl
    apply Array.ext'
    simp [List.take_drop]
   ·cases hl
  simp [part,np,se hT hn,hx]
 |false =>
  simp only [Bool.false_eq_true,if_false] at hs
  have vU:cs[o]? = some v:=by simpa using hs
  simp [part,np,vU]
theorem zfS (hT:T.Fits P) {E:TypeId→Value→Value→Option Bool} {d:Nat} (w:World) (hE:∀ t x y b,E t x y=some b→(Op.equalIn d t x y).run P w=.ok b w) (xs ys:Array Value) :
 ∀ (fs:List Field) (ps:List (TypeId × Nat)) (b:Bool),F9 fs=some ps→zN T E xs.toList ys.toList ps=some b→(Op.eqFields d xs ys fs).run P w=.ok b w
 | [],ps,b,hp,he=>by
  cases hp
  cases he
  simp [Op.eqFields]
 |f::fs,ps,b,hp,he=>by
  simp only [F9] at hp
  split at hp
  ·cases hp
  ·rename_i hn
   simp only [Option.map_eq_some_iff] at hp
   obtain ⟨r,hr,rfl⟩:=hp
   simp only [zN,Option.bind_eq_some_iff] at he
   obtain ⟨a,ha,c,hc,q,hq,he⟩:=he
   have h1:=Gj hT ha w
   have h2:=Gj hT hc w
   have h3:=hE _ _ _ _ hq
   simp only [Op.eqFields]
   rw [if_pos (by simpa using hn)]
   simp only [Sem.run_bind,h1,h2,h3,Result.andThen_ok]
   cases q with
   |false =>
    simp only [Bool.false_eq_true,if_false,Option.some.injEq] at he
    subst he
    simp
   |true =>
    simp only [if_true] at he
    simpa using zfS hT w hE xs ys fs r b hr he
theorem zgx (hT:T.Fits P) {E:TypeId→Value→Value→Option Bool} {d:Nat} (w:World) (hE:∀ t x y b,E t x y=some b→(Op.equalIn d t x y).run P w=.ok b w) (xs ys:Array Value) (e:TypeId) (k:Nat) :
 ∀ (n i:Nat) (b:Bool),zN T E xs.toList ys.toList (Gg e k n i)=some b→(Op.eqItems d e k xs ys (List.range' i n)).run P w=.ok b w
 |0,i,b,he=>by
  cases he
  simp [Op.eqItems]
 |n+1,i,b,he=>by
  simp only [Gg,zN,Option.bind_eq_some_iff] at he
  obtain ⟨a,ha,c,hc,q,hq,he⟩:=he
  have h1:=Gj hT ha w
  have h2:=Gj hT hc w
  have h3:=hE _ _ _ _ hq
  simp only [List.range'_succ,Op.eqItems,Sem.run_bind,h1,h2,h3,Result.andThen_ok]
  cases q with
  |false =>
   simp only [Bool.false_eq_true,if_false,Option.some.injEq] at he
   subst he
   simp
  |true =>
   simp only [if_true] at he
   simpa using zgx hT w hE xs ys e k n (i+1) b he
theorem L7 (hT:T.Fits P) (w:World):∀ (d D:Nat) (t:TypeId) (x y:Value) (b:Bool),eU T d t x y=some b→(Op.equalIn (D+d) t x y).run P w=.ok b w
 |0,_,_,_,_,_,he=>by simp [eU] at he
 |d+1,D,t,x,y,b,he=>by
  unfold eU at he
  split at he
  ·rename_i a c hd
   cases he
   exact run_equalIn_bool w (D+d) t a c (hT.desc _ _ hd)
  ·rename_i q k a k' c hd
   split at he
   ·rename_i hk
    subst hk
    cases he
    exact run_equalIn_int w (D+d) t k q a c (hT.desc _ _ hd)
   ·cases he
  ·rename_i a c hd
   cases he
   rw [show D+(d+1)=(D+d)+1 from rfl,run_equalIn_string w (D+d) t a c (hT.desc _ _ hd),ByteArray.toList_eq,ByteArray.toList_eq]
  ·rename_i fs xs ys hd
   split at he
   ·rename_i hc
    simp only [Option.bind_eq_some_iff] at he
    obtain ⟨ps,hp,he⟩:=he
    have hu:=hT.desc _ _ hd
    have hf:P.fieldsOf t=fs:=by simp [Program.fieldsOf,hu]
    rw [show D+(d+1)=(D+d)+1 from rfl,run_equalIn_struct w (D+d) t xs ys (by rw [hf];exact hu) (hT.cmp t hc).1,hf]
    exact zfS hT w (fun t x y b hb=>L7 hT w d D t x y b hb) xs ys fs.toList ps b hp he
   ·cases he
  ·rename_i n e xs ys hd
   simp only [Option.bind_eq_some_iff] at he
   obtain ⟨k,hk,he⟩:=he
   have hu:=hT.desc _ _ hd
   simp only [bO,Option.map_eq_some_iff] at hk
   obtain ⟨⟨n',b',z⟩,hi,rfl⟩:=hk
   obtain ⟨i,zv,fS,dB,_⟩:=hT.info _ _ _ _ hi
   have pY:P.cellsOf e=n':=by simp [Program.cellsOf,fS,dB]
   rw [show D+(d+1)=(D+d)+1 from rfl,run_equalIn_array w (D+d) xs ys hu fS,pY]
   have:=zgx hT w (fun t x y b hb=>L7 hT w d D t x y b hb) xs ys e n' n 0 b he
   rw [List.range_eq_range']
   exact this
  ·cases he

theorem zqQ (hT:T.Fits P) {op:BinOp} {t:TypeId} {x y x' y' v:Value} (hx:VR ρ x x') (hy:VR ρ y y') (hs:bU P T op t x y=some v) (ox oy:Operand) (w:World) :
 ∃ vc,(do eqGuard op t ox oy x' y';binOp op t x' y':Sem Value).run P w=.ok vc w∧VR ρ v vc:=by
 unfold bU at hs
 split at hs
 ·rename_i v' hf
  cases hs
  obtain ⟨h1,h2,h3,h4,k,a,rfl⟩:=zk2 (P:=P) (t:=t) hf
  have e1:=hx.bG h2
  have e2:=hy.bG h3
  subst e1 e2
  refine ⟨v,?_,.cX ρ h4⟩
  rw [Sem.run_bind,Oy op t ox oy (.int k a) _ (by simp) (by intro c d e;cases e) w]
  exact LR P _ _ h1 w
 ·split at hs
  ·rename_i b hb
   simp only [Option.bind_eq_some_iff] at hb
   obtain ⟨d,hd,he⟩:=hb
   have ht:=hT.desc _ _ hd
   obtain ⟨h1,h2⟩:=zoD ht hx hy he w
   have hna:x'≠.nilIface∧(∀ c,x'≠.agg c):=by
    unfold BM at he
    split at he <;> first|(cases he;done)|(cases hx <;> exact ⟨by simp,by simp⟩)
   have hg:=Oy (P:=P) op t ox oy x' y' hna.1 (by intro c d e;exact (hna.2 c e).elim) w
   split at hs
   ·cases hs
    refine ⟨.bool b,?_,.bool _⟩
    simp only [Sem.run_bind,hg,Result.andThen_ok,h2 .eql (.inl rfl),if_true,h1,Sem.run_pure]
   ·cases hs
    refine ⟨.bool !b,?_,.bool _⟩
    simp only [Sem.run_bind,hg,Result.andThen_ok,h2 .neq (.inr rfl),reduceCtorEq,if_false,h1,Sem.run_pure]
   ·cases hs
  ·split at hs
   ·rename_i hp
    simp only [Bool.and_eq_true] at hp
    have e1:=hx.bG hp.1
    have e2:=hy.bG hp.2
    subst e1 e2
    have fin:∀ (hs:((gF P (binOp op t x' y')).bind fun v=>if plain v then some v else none)=some v) (hg:(eqGuard op t ox oy x' y').run P w=.ok () w),
     ∃ vc,(do eqGuard op t ox oy x' y';binOp op t x' y':Sem Value).run P w=.ok vc w∧VR ρ v vc:=by
     intro hs hg
     simp only [Option.bind_eq_some_iff] at hs
     obtain ⟨v1,hr,hs⟩:=hs
     split at hs
     ·rename_i hpv
      cases hs
      refine ⟨v,?_,.cX ρ hpv⟩
      simp only [Sem.run_bind,hg,Result.andThen_ok]
      exact LR P _ _ hr w
     ·cases hs
    split at hs
    ·cases hs
    ·rename_i c d
     split at hs
     ·rename_i qd
      have hg:=fun xs ys=>Oy (P:=P) op t ox oy (.agg xs) (.agg ys) (by simp) (by intro _ _ _ _;exact (hT.cmp t qd).2) w
      split at hs
      ·simp only [Option.map_eq_some_iff] at hs
       obtain ⟨b,hb,rfl⟩:=hs
       refine ⟨.bool b,?_,.bool _⟩
       simp only [Sem.run_bind,hg,Result.andThen_ok]
       rw [run_eql_struct,L7 hT w 20 9980 t _ _ b hb]
       rfl
      ·simp only [Option.map_eq_some_iff] at hs
       obtain ⟨b,hb,rfl⟩:=hs
       refine ⟨.bool !b,?_,.bool _⟩
       simp only [Sem.run_bind,hg,Result.andThen_ok]
       rw [run_neq_struct,L7 hT w 20 9980 t _ _ b hb]
       rfl
      ·cases hs
     ·cases hs
    ·rename_i h1 h2
     refine fin hs (Oy op t ox oy _ _ ?_ ?_ w)
     ·intro e;exact h1 e
     ·intro c d e1 e2;exact (h2 c d e1 e2).elim
   ·cases hs

theorem zrm (hT:T.Fits P) (hs:bK ρ h w) {t ty:TypeId} {x y v:Value} (cS:VR ρ x y) (hl:bd T t x h=some v) (ts:List TypeId) :
 ∃ vc,(Builtin.len_ (t::ts).toArray ty #[y]).run P w=.ok vc w∧VR ρ v vc:=by
 unfold bd at hl
 split at hl
 ·rename_i s hd
  cases cS
  cases hl
  exact ⟨_,by simp [Builtin.len_,run_underlying (hT.desc _ _ hd),goInt],.int _ _⟩
 ·rename_i e a n c hd
  cases hl
  have key:∃ a' c',y=.slice a' n c':=by cases cS <;> exact ⟨_,_,rfl⟩
  obtain ⟨a',c',rfl⟩:=key
  exact ⟨_,by simp [Builtin.len_,run_underlying (hT.desc _ _ hd),goInt],.int _ _⟩
 ·rename_i a b hd
  cases cS
  cases hl
  exact ⟨_,by simp [Builtin.len_,run_underlying (hT.desc _ _ hd),goInt],.int _ _⟩
 ·rename_i a b A hd
  split at hl
  ·rename_i es clock hg
   cases hl
   cases cS with
   |map hA =>
    rename_i L
    have hb:=hs.jX A L hA
    rw [hg] at hb
    obtain ⟨ces,hc,he⟩:=hb
    refine ⟨.int .i64 (ces.size:Nat),by simp [Builtin.len_,run_underlying (hT.desc _ _ hd),goInt,getObj,Sem.run,hc],?_⟩
    have e1:(es.length:Int)=(ces.size:Int):=by have:=he.1;simp at this;omega
    rw [e1]
    exact .int _ _
  ·cases hl
 ·cases hl
end
end Go.Am
namespace Go.Am
open Go.RowKit
section
variable {P:Program} {T:bD} {ρ:ct} {h h':Heap} {w:World}

theorem zhN {α:Type} (P:Program) (w:World) (l:List α) (g:α→PUnit→Sem (ForInStep PUnit)) (hf:∀ x∈l,(g x PUnit.unit).run P w=.ok (.yield PUnit.unit) w) :
 (forIn l PUnit.unit g:Sem PUnit).run P w=.ok PUnit.unit w:=by
 induction l with
 |nil=>simp
 |cons x l ih =>
  have h1:=hf x (by simp)
  have h2:=ih (fun y hy=>hf y (by simp [hy]))
  simp only [List.forIn_cons,Sem.run_bind,h1,Result.andThen_ok,h2]

theorem YC {E:TypeId→Value→Value→Option Bool} {xs:List Value}:∀ {ps:List (TypeId × Nat)},zN T E xs xs ps=some true→∀ p∈ps,∃ a,aP T p.1 xs p.2=some a∧E p.1 a a=some true
 | [],_,p,hp=>by cases hp
 |(t,o)::r,he,p,hp=>by
  simp only [zN,Option.bind_eq_some_iff] at he
  obtain ⟨a,ha,c,hc,q,hq,he⟩:=he
  rw [ha] at hc
  cases hc
  cases q with
  |false=>simp at he
  |true =>
   simp only [if_true] at he
   rcases List.mem_cons.1 hp with rfl|hp
   ·exact ⟨a,ha,hq⟩
   ·exact YC he p hp

theorem zfW:∀ {fs:List Field} {ps:List (TypeId × Nat)},F9 fs=some ps→∀ f∈fs,(f.type,f.offset)∈ps
 | [],_,_,f,hf=>by cases hf
 |g::fs,ps,hp,f,hf=>by
  simp only [F9] at hp
  split at hp
  ·cases hp
  ·simp only [Option.map_eq_some_iff] at hp
   obtain ⟨r,hr,rfl⟩:=hp
   rcases List.mem_cons.1 hf with rfl|hf
   ·simp
   ·exact List.mem_cons_of_mem _ (zfW hr f hf)

theorem zgE {e:TypeId} {k:Nat}:∀ (n i j:Nat),i≤j→j < i+n→(e,j*k)∈Gg e k n i
 |0,i,j,h1,h2=>by omega
 |n+1,i,j,h1,h2=>by
  simp only [Gg]
  by_cases e:i=j
  ·subst e;simp
  ·exact List.mem_cons_of_mem _ (zgE n (i+1) j (by omega) (by omega))

theorem YB (hT:T.Fits P) (w:World) (em:Bool):∀ (d D:Nat) (t:TypeId) (x y:Value),eU T d t x y=some true→y=x→(Instr.checkKey em (D+d) t x).run P w=.ok () w
 |0,_,_,_,_,he,_=>by simp [eU] at he
 |d+1,D,t,x,y,he,Kd=>by
  unfold eU at he
  rw [show D+(d+1)=(D+d)+1 from rfl]
  split at he
  ·rename_i a c hd
   simp [Instr.checkKey,run_underlying (hT.desc _ _ hd)]
  ·rename_i q k a k' c hd
   simp [Instr.checkKey,run_underlying (hT.desc _ _ hd)]
  ·rename_i a c hd
   simp [Instr.checkKey,run_underlying (hT.desc _ _ hd)]
  ·rename_i fs xs ys hd
   cases Kd
   split at he
   ·simp only [Option.bind_eq_some_iff] at he
    obtain ⟨ps,hp,he⟩:=he
    have az:=YC he
    simp only [Instr.checkKey,Sem.run_bind,run_underlying (hT.desc _ _ hd),Result.andThen_ok]
    rw [← Array.forIn_toList]
    rw [zhN P w fs.toList]
    ·simp
    ·intro f hf
     obtain ⟨a,ha,hq⟩:=az _ (zfW hp f hf)
     have h1:=YB hT w em d D f.type a a hq rfl
     split
     ·simp only [Sem.run_bind,Gj hT ha w,Result.andThen_ok,h1,Sem.run_pure]
     ·simp
   ·cases he
  ·rename_i n e xs ys hd
   cases Kd
   simp only [Option.bind_eq_some_iff] at he
   obtain ⟨k,hk,he⟩:=he
   have az:=YC he
   simp only [Instr.checkKey,Sem.run_bind,run_underlying (hT.desc _ _ hd),Result.andThen_ok]
   simp only [Std.Legacy.Range.forIn_eq_forIn_range',Std.Legacy.Range.size,Nat.sub_zero,Nat.add_sub_cancel,Nat.div_one]
   rw [zhN P w]
   ·simp
   ·intro i hi
    have oL:i < n:=by simpa using hi
    obtain ⟨a,ha,hq⟩:=az _ (zgE (e:=e) (k:=k) n 0 i (by omega) (by omega))
    have h1:=YB hT w em d D e a a hq rfl
    simp only [Sem.run_bind,se hT hk,Gj hT ha w,Result.andThen_ok,h1,Sem.run_pure]
  ·cases he

theorem LS (hT:T.Fits P) (w:World) (em:Bool) (d D:Nat) (t:TypeId) (x:Value) (he:eU T d t x x=some true):(Instr.checkKey em (D+d) t x).run P w=.ok () w:=YB hT w em d D t x x he rfl

theorem Ga {kt:TypeId} {k:Value} (hk:sq T kt k=true):plain k=true∧eU T 20 kt k k=some true:=by
 unfold sq at hk
 split at hk
 ·rename_i hp
  refine ⟨hp,?_⟩
  split at hk
  ·rename_i b hb;rw [hb,hk]
  ·cases hk
 ·cases hk

def zsE (ρ:ct):Option (Nat × Value)→Option (Nat × Value)→Prop
 |none,none=>True
 |some (i,v),some (j,u)=>i=j∧VR ρ v u
 |_,_=>False

theorem kY.of_cons {x:MapEntry} {l m:List MapEntry} (hl:kY ρ (x::l) m):∃ y m',m=y::m'∧VR ρ x.key y.key∧VR ρ x.val y.val∧x.born=y.born∧plain x.key=true∧kY ρ l m':=by
 cases m with
 |nil=>have:=hl.1;simp at this
 |cons y m =>
  obtain ⟨h1,h2,h3,h4⟩:=hl.2 0 x y rfl rfl
  exact ⟨y,m,rfl,h1,h2,h3,h4,by have:=hl.1;simpa using this,fun i a b ha hb=>hl.2 (i+1) a b (by simpa using ha) (by simpa using hb)⟩
theorem kY.of_nil {m:List MapEntry} (hl:kY ρ [] m):m=[]:=by
 have:=hl.1
 simp at this
 exact List.eq_nil_of_length_eq_zero this.symm

theorem zsa (hT:T.Fits P) {kt:TypeId} {d:TypeDesc} (hd:P.underlying kt=some d) {x y:Value} {b c:Bool} (he:eU T 20 kt x y=some b) (hs:Instr.sameNow d x y=some c):b=c:=by
 unfold eU at he
 split at he
 ·rename_i a c' mc
  have:=hT.desc _ _ mc
  rw [hd] at this
  cases this
  cases he
  simpa [Instr.sameNow] using hs
 ·rename_i q k a k' c' mc
  have:=hT.desc _ _ mc
  rw [hd] at this
  cases this
  split at he
  ·rename_i hk
   subst hk
   cases he
   simpa [Instr.sameNow] using hs
  ·cases he
 ·rename_i a c' mc
  have:=hT.desc _ _ mc
  rw [hd] at this
  cases this
  cases he
  simp only [Instr.sameNow,Option.some.injEq] at hs
  rw [← hs,beq_toListBytes,ByteArray.toList_eq,ByteArray.toList_eq]
 ·rename_i fs xs ys mc
  have:=hT.desc _ _ mc
  rw [hd] at this
  cases this
  simp [Instr.sameNow] at hs
 ·rename_i n e xs ys mc
  have:=hT.desc _ _ mc
  rw [hd] at this
  cases this
  simp [Instr.sameNow] at hs
 ·cases he

theorem zkt (hT:T.Fits P) {kt:TypeId} {d:TypeDesc} (hd:P.underlying kt=some d) {k:Value}:∀ (es ces:List MapEntry) (i:Nat) (r r':Option (Nat × Value)),kY ρ es ces→oc T kt k es i=some r→Instr.findNow d k ces i=some r'→zsE ρ r r'
 | [],ces,i,r,r',he,hf,hn=>by
  rw [he.of_nil] at hn
  simp only [oc,Instr.findNow,Option.some.injEq] at hf hn
  subst hf hn
  trivial
 |e::es,ces,i,r,r',he,hf,hn=>by
  obtain ⟨y,m,rfl,hk,hv,_,hp,qL⟩:=he.of_cons
  have kF:=hk.bG hp
  simp only [oc,Option.bind_eq_some_iff] at hf
  obtain ⟨b,hb,hf⟩:=hf
  simp only [Instr.findNow] at hn
  rw [kF] at hn
  cases WJ:Instr.sameNow d k e.key with
  |none=>rw [WJ] at hn;cases hn
  |some c =>
   have:=zsa hT hd hb WJ
   subst this
   rw [WJ] at hn
   cases b with
   |true =>
    simp only [if_true,Option.some.injEq] at hf hn
    subst hf hn
    exact ⟨rfl,hv⟩
   |false =>
    simp only [Bool.false_eq_true,if_false] at hf hn
    exact zkt hT hd es m (i+1) r r' qL hf hn

theorem zgz (hT:T.Fits P) (w:World) {kt:TypeId} {k:Value}:∀ (es ces:List MapEntry) (i:Nat) (r:Option (Nat × Value)),kY ρ es ces→oc T kt k es i=some r→∃ r',(Instr.findAsking kt k ces i).run P w=.ok r' w∧zsE ρ r r'
 | [],ces,i,r,he,hf=>by
  rw [he.of_nil]
  simp only [oc,Option.some.injEq] at hf
  subst hf
  exact ⟨none,by simp [Instr.findAsking],trivial⟩
 |e::es,ces,i,r,he,hf=>by
  obtain ⟨y,m,rfl,hk,hv,_,hp,qL⟩:=he.of_cons
  have kF:=hk.bG hp
  simp only [oc,Option.bind_eq_some_iff] at hf
  obtain ⟨b,hb,hf⟩:=hf
  have hq:(Op.equal kt k y.key).run P w=.ok b w:=by rw [kF];exact L7 hT w 20 9980 kt _ _ b hb
  cases b with
  |true =>
   simp only [if_true,Option.some.injEq] at hf
   subst hf
   exact ⟨some (i,y.val),by simp [Instr.findAsking,hq],rfl,hv⟩
  |false =>
   simp only [Bool.false_eq_true,if_false] at hf
   obtain ⟨r',h1,h2⟩:=zgz hT w es m (i+1) r qL hf
   exact ⟨r',by simp [Instr.findAsking,hq,h1],h2⟩

theorem zoZ (hT:T.Fits P) {kt:TypeId} {k:Value} (hk:sq T kt k=true):∃ d,P.underlying kt=some d:=by
 obtain ⟨_,h1⟩:=Ga hk
 unfold eU at h1
 split at h1
 all_goals first|exact ⟨_,hT.desc _ _ ‹_›⟩|cases h1

theorem OL (hT:T.Fits P) (w:World) {kt:TypeId} {k:Value} (hk:sq T kt k=true) {es ces:List MapEntry} {r:Option (Nat × Value)} (he:kY ρ es ces) (hf:oc T kt k es 0=some r) :
 ∃ r',(Instr.findKey kt k ces).run P w=.ok r' w∧zsE ρ r r':=by
 obtain ⟨d,hd⟩:=zoZ hT hk
 cases hn:Instr.findNow d k ces 0 with
 |some r'=>exact ⟨r',by simp [Instr.findKey,run_underlying hd,hn],zkt hT hd es ces 0 r r' he hf hn⟩
 |none =>
  obtain ⟨r',h1,h2⟩:=zgz hT w es ces 0 r he hf
  exact ⟨r',by simp [Instr.findKey,run_underlying hd,hn,h1],h2⟩

theorem OV (hT:T.Fits P) {t:TypeId} {v:Value} (hz:T.zero t=some v) (w:World):(zeroValue t).run P w=.ok v w∧VR ρ v v:=by
 obtain ⟨⟨i,hi,hiz⟩,hp⟩:=hT.zero t v hz
 exact ⟨by simp [zeroValue,typeInfo,hi,hiz],.cX ρ hp⟩

theorem zo6 (hs:bK ρ h w) {x y:Value} (cS:VR ρ x y) {es:List MapEntry} (hm:M7 x h=some es) :
 ∃ ces:Array MapEntry,kY ρ es ces.toList∧((y=.map none∧ces=#[])∨∃ A L clock,x=.map (some A)∧ρ A=some L∧y=.map (some L.b)∧h.get A=some (.map es clock)∧w.heap[L.b]? = some (.map ces clock)):=by
 unfold M7 at hm
 split at hm
 ·cases hm
  cases cS
  exact ⟨#[],⟨rfl,by intro i x y hx;simp at hx⟩,.inl ⟨rfl,rfl⟩⟩
 ·split at hm
  ·rename_i A _ Nt clock hg
   cases hm
   cases cS with
   |map hA =>
    rename_i L
    have hb:=hs.jX A L hA
    rw [hg] at hb
    obtain ⟨ces,hc,he⟩:=hb
    exact ⟨ces,he,.inr ⟨A,L,clock,rfl,hA,rfl,hg,hc⟩⟩
  ·cases hm
 ·cases hm

theorem zlD (hT:T.Fits P) (hs:bK ρ h w) {t:TypeId} {x y k k' v:Value} {ok:Bool} (cS:VR ρ x y) (hk:VR ρ k k') (hl:vt T t x k ok h=some v) :
 ∃ u,(Instr.lookup t y k' ok).run P w=.ok u w∧VR ρ v u:=by
 unfold vt at hl
 split at hl
 ·rename_i kt et hd
  split at hl
  ·rename_i j2
   simp only [Option.bind_eq_some_iff,Option.map_eq_some_iff,Prod.exists] at hl
   obtain ⟨es,xb,r,hr,v',b,qT,hv⟩:=hl
   have hu:=hT.desc _ _ hd
   obtain ⟨hp,hY⟩:=Ga j2
   have sG:k'=k:=hk.bG hp
   subst sG
   obtain ⟨ces,he,hy⟩:=zo6 hs cS xb
   obtain ⟨r',hf,cN⟩:=OL hT w j2 he hr
   have lL:∀ em,(Instr.checkKey em 10000 kt k').run P w=.ok () w:=fun em=>LS hT w em 20 9980 kt k' hY
   have AR:∀ u',VR ρ v' u'→VR ρ v (if ok then .tuple #[u',.bool b] else u'):=by
    intro u' lN
    rw [← hv]
    cases ok
    ·exact lN
    ·simp only [if_true]
     exact (cu.cons lN (.cons (.bool b) (.nil ρ))).iB
   cases r with
   |none =>
    cases r' with
    |some q=>exact cN.elim
    |none =>
     simp only [Option.map_eq_some_iff,Prod.mk.injEq] at qT
     obtain ⟨z,hz,rfl,rfl⟩:=qT
     obtain ⟨h1,h2⟩:=OV (ρ:=ρ) hT hz w
     refine ⟨_,?_,AR z h2⟩
     rcases hy with ⟨rfl,rfl⟩|⟨A,L,clock,_,_,rfl,_,hc⟩
     ·simp only [Instr.lookup,Sem.run_bind,run_underlying hu,Result.andThen_ok,Sem.run_pure,lL,hf,h1]
     ·have hg:(getObj L.b).run P w=.ok (.map ces clock) w:=by simp [getObj,Sem.run,hc]
      simp only [Instr.lookup,Sem.run_bind,run_underlying hu,Result.andThen_ok,Sem.run_pure,hg,lL,hf,h1]
   |some p =>
    cases r' with
    |none=>exact cN.elim
    |some q =>
     obtain ⟨i,v1⟩:=p
     obtain ⟨j,u1⟩:=q
     simp only [Option.some.injEq,Prod.mk.injEq] at qT
     obtain ⟨rfl,rfl⟩:=qT
     refine ⟨_,?_,AR u1 cN.2⟩
     rcases hy with ⟨rfl,rfl⟩|⟨A,L,clock,_,_,rfl,_,hc⟩
     ·simp only [Instr.lookup,Sem.run_bind,run_underlying hu,Result.andThen_ok,Sem.run_pure,lL,hf]
     ·have hg:(getObj L.b).run P w=.ok (.map ces clock) w:=by simp [getObj,Sem.run,hc]
      simp only [Instr.lookup,Sem.run_bind,run_underlying hu,Result.andThen_ok,Sem.run_pure,hg,lL,hf]
  ·cases hl
 ·cases hl

theorem zqz:∀ {x y:Value},Fe x y=true→x=y:=by
 intro x y hh
 unfold Fe at hh
 split at hh
 ·simpa using hh
 ·simp only [Bool.and_eq_true,decide_eq_true_eq,beq_iff_eq] at hh
  rw [hh.1,hh.2]
 ·rename_i a b
  obtain ⟨⟨a⟩⟩:=a
  obtain ⟨⟨b⟩⟩:=b
  simpa using hh
 ·cases hh
theorem zkK:∀ {l m:List Value},Gy l m=true→l=m
 | [],[],_=>rfl
 |x::l,y::m,hh=>by
  simp only [Gy,Bool.and_eq_true] at hh
  rw [zqz hh.1,zkK hh.2]
 | [],_::_,hh=>by cases hh
 |_::_,[],hh=>by cases hh
theorem zkJ {x y:Value} (hh:Fe x y=true) (n:Nat):Instr.sameBits n x y=true:=by
 have:=zqz hh
 subst this
 unfold Fe at hh
 split at hh
 ·simp [Instr.sameBits]
 ·simp [Instr.sameBits]
 ·simp [Instr.sameBits,beq_toListBytes]
 ·cases hh
theorem zhO:∀ {l m:List Value},Gy l m=true→∀ n,(l.zip m).all (fun (x,y)=>Instr.sameBits n x y)=true
 | [],[],_,_=>rfl
 |x::l,y::m,hh,n=>by
  simp only [Gy,Bool.and_eq_true] at hh
  simp only [List.zip_cons_cons,List.all_cons,Bool.and_eq_true]
  exact ⟨zkJ hh.1 n,zhO hh.2 n⟩
 | [],_::_,hh,_=>by cases hh
 |_::_,[],hh,_=>by cases hh
theorem zhP {x y:Value} (hh:EG x y=true):Instr.sameBits 10000 x y=true:=by
 unfold EG at hh
 split at hh
 ·rename_i a b
  have h1:=zhO hh 9999
  have h2:=zkK hh
  have h3:a.size=b.size:=by rw [← Array.length_toList,h2,Array.length_toList]
  rw [Instr.sameBits,h3]
  simpa using h1
 ·exact zkJ hh _

theorem zgZ (hT:T.Fits P) (hs:bK ρ h w) {t:TypeId} {x y k k' v v':Value} (cS:VR ρ x y) (hk:VR ρ k k') (hv:VR ρ v v') (hl:mS T t x k v h=some h') :
 ∃ w',(Instr.mapUpdate t y k' v').run P w=.ok () w'∧Fr ρ ρ h h' w w'∧bK ρ h' w':=by
 unfold mS at hl
 split at hl
 ·rename_i kt et A hd
  split at hl
  ·rename_i es clock hg
   split at hl
   ·rename_i j2
    simp only [Option.bind_eq_some_iff] at hl
    obtain ⟨r,hr,hl⟩:=hl
    have hu:=hT.desc _ _ hd
    obtain ⟨hp,hY⟩:=Ga j2
    have sG:k'=k:=hk.bG hp
    subst sG
    cases cS with
    |map hA =>
     rename_i L
     have hb:=hs.jX A L hA
     rw [hg] at hb
     obtain ⟨ces,hc,he⟩:=hb
     obtain ⟨r',hf,cN⟩:=OL hT w j2 he hr
     have lL:∀ em,(Instr.checkKey em 10000 kt k').run P w=.ok () w:=fun em=>LS hT w em 20 9980 kt k' hY
     have iH:∀ o:Obj,(setObj L.b o).run P w=.ok () (w.putObj L.b o):=by
      intro o
      simp [setObj,Sem.run,hc,World.putObj]
     have aS:L.b < w.heap.size:=(Array.getElem?_eq_some_iff.1 hc).1
     have qk:∀ (b':bh) (o:Obj),og ρ (w.putObj L.b o) L (some b')→Fr ρ ρ h (h.set A b') w (w.putObj L.b o)∧bK ρ (h.set A b') (w.putObj L.b o):=by
      intro b' o kj
      refine Ma hs hA hg (by simp) (by simp) rfl rfl rfl (by simp [World.putObj]) (fun q hq=>?_) kj
      simp only [World.putObj]
      rw [Array.getElem?_setIfInBounds_ne (Ne.symm hq)]
     have nt:∀ o:Obj,(w.putObj L.b o).heap[L.b]? = some o:=by
      intro o
      simp [World.putObj,aS]
     cases r with
     |none =>
      cases r' with
      |some q=>exact cN.elim
      |none =>
       simp only [Option.some.injEq] at hl
       subst hl
       refine ⟨w.putObj L.b (.map (ces.push { key:=k',val:=v',born:=clock }) (clock+1)),?_,qk _ _ ⟨_,nt _,?_⟩⟩
       ·simp [Instr.mapUpdate,run_underlying hu,getObj,Sem.run,hc,lL,hf,iH]
       ·refine ⟨by simp [he.1],fun i a b ha hb=>?_⟩
        have hlen:=he.1
        rw [Array.toList_push] at hb
        rcases Nat.lt_trichotomy i es.length with h1|h1|h1
        ·rw [List.getElem?_append_left h1] at ha
         rw [List.getElem?_append_left (by omega)] at hb
         exact he.2 i a b ha hb
        ·rw [List.getElem?_append_right (by omega)] at ha
         rw [List.getElem?_append_right (by omega)] at hb
         have e1:i - es.length=0:=by omega
         have e2:i - ces.toList.length=0:=by omega
         rw [e1] at ha
         rw [e2] at hb
         simp at ha hb
         subst ha hb
         exact ⟨.cX ρ hp,hv,rfl,hp⟩
        ·rw [List.getElem?_append_right (by omega)] at ha
         have:i - es.length=(i - es.length - 1)+1:=by omega
         rw [this] at ha
         simp at ha
     |some q =>
      obtain ⟨i,v1⟩:=q
      cases r' with
      |none=>exact cN.elim
      |some q' =>
       obtain ⟨j,u1⟩:=q'
       obtain ⟨rfl,_⟩:=cN
       simp only [Option.bind_eq_some_iff] at hl
       obtain ⟨e,Jn,hl⟩:=hl
       split at hl
       ·rename_i gD
        cases hl
        have kE:i < ces.size:=by
         have h1:=(List.getElem?_eq_some_iff.1 Jn).1
         have:=he.1
         simp at this
         omega
        obtain ⟨k1,k2,k3,k4⟩:=he.2 i e ces[i] Jn (by simp)
        have Wb:ces[i].key=e.key:=k1.bG k4
        have tV:=zhP gD
        refine ⟨w.putObj L.b (.map (ces.modify i fun e=>{ e with key:=k',val:=v' }) clock),?_,qk _ _ ⟨_,nt _,?_⟩⟩
        ·simp [Instr.mapUpdate,run_underlying hu,getObj,Sem.run,hc,lL,hf,iH,Instr.keyThatStays,Wb,tV,kE]
        ·refine ⟨by simp [he.1],fun q a b ha hb=>?_⟩
         rw [Array.toList_modify] at hb
         rw [List.getElem?_modify] at ha hb
         by_cases hq:i=q
         ·subst hq
          simp only [if_true,Option.map_eq_map,Option.map_eq_some_iff] at ha hb
          obtain ⟨a0,I7,rfl⟩:=ha
          obtain ⟨b0,Jd,rfl⟩:=hb
          obtain ⟨_,_,h3,_⟩:=he.2 i a0 b0 I7 Jd
          exact ⟨.cX ρ hp,hv,h3,hp⟩
         ·simp only [if_neg hq] at ha hb
          exact he.2 q a b (by simpa using ha) (by simpa using hb)
       ·cases hl
   ·cases hl
  ·cases hl
 ·cases hl

theorem YG (hs:bK ρ h w) {A:Nat} {L:Loc} {es Nt:List MapEntry} {ces wS:Array MapEntry} {clock clock':Nat} (hA:ρ A=some L) (hg:h.get A=some (.map es clock)) (hc:w.heap[L.b]? = some (.map ces clock))
 (he:kY ρ Nt wS.toList):Fr ρ ρ h (h.set A (.map Nt clock')) w (w.putObj L.b (.map wS clock'))∧bK ρ (h.set A (.map Nt clock')) (w.putObj L.b (.map wS clock')):=by
 have aS:L.b < w.heap.size:=(Array.getElem?_eq_some_iff.1 hc).1
 refine Ma hs hA hg (by simp) (by simp) rfl rfl rfl (by simp [World.putObj]) (fun q hq=>?_) ⟨wS,by simp [World.putObj,aS],he⟩
 simp only [World.putObj]
 rw [Array.getElem?_setIfInBounds_ne (Ne.symm hq)]

theorem kY.push {es:List MapEntry} {ces:Array MapEntry} (he:kY ρ es ces.toList) {k v v':Value} {clock:Nat} (hp:plain k=true) (hv:VR ρ v v') :
 kY ρ (es++[{ key:=k,val:=v,born:=clock }]) (ces.push { key:=k,val:=v',born:=clock }).toList:=by
 refine ⟨by simp [he.1],fun i a b ha hb=>?_⟩
 have hlen:=he.1
 rw [Array.toList_push] at hb
 rcases Nat.lt_trichotomy i es.length with h1|h1|h1
 ·rw [List.getElem?_append_left h1] at ha
  rw [List.getElem?_append_left (by omega)] at hb
  exact he.2 i a b ha hb
 ·rw [List.getElem?_append_right (by omega)] at ha
  rw [List.getElem?_append_right (by omega)] at hb
  have e1:i - es.length=0:=by omega
  have e2:i - ces.toList.length=0:=by omega
  rw [e1] at ha
  rw [e2] at hb
  simp at ha hb
  subst ha hb
  exact ⟨.cX ρ hp,hv,rfl,hp⟩
 ·rw [List.getElem?_append_right (by omega)] at ha
  have:i - es.length=(i - es.length - 1)+1:=by omega
  rw [this] at ha
  simp at ha

theorem kY.modify {es:List MapEntry} {ces:Array MapEntry} (he:kY ρ es ces.toList) (i:Nat) {f g:MapEntry→MapEntry}
 (CZ:∀ a b,VR ρ a.key b.key→VR ρ a.val b.val→a.born=b.born→plain a.key=true→VR ρ (f a).key (g b).key∧VR ρ (f a).val (g b).val∧(f a).born=(g b).born∧plain (f a).key=true) :
 kY ρ (es.modify i f) (ces.modify i g).toList:=by
 refine ⟨by simp [he.1],fun q a b ha hb=>?_⟩
 rw [Array.toList_modify] at hb
 rw [List.getElem?_modify] at ha hb
 by_cases hq:i=q
 ·subst hq
  simp only [if_true,Option.map_eq_map,Option.map_eq_some_iff] at ha hb
  obtain ⟨a0,I7,rfl⟩:=ha
  obtain ⟨b0,Jd,rfl⟩:=hb
  obtain ⟨h1,h2,h3,h4⟩:=he.2 i a0 b0 I7 Jd
  exact CZ a0 b0 h1 h2 h3 h4
 ·simp only [if_neg hq] at ha hb
  exact he.2 q a b (by simpa using ha) (by simpa using hb)

theorem zmD (hT:T.Fits P) (hs:bK ρ h w) {t:TypeId} {x y k k' v:Value} (cS:VR ρ x y) (hk:VR ρ k k') (hl:wo T t x k h=some (v,h')) :
 ∃ u w',(Instr.mapEntry t y k').run P w=.ok u w'∧Fr ρ ρ h h' w w'∧bK ρ h' w'∧VR ρ v u:=by
 unfold wo at hl
 split at hl
 ·rename_i kt et A hd
  split at hl
  ·rename_i es clock hg
   split at hl
   ·rename_i j2
    simp only [Option.bind_eq_some_iff] at hl
    obtain ⟨r,hr,hl⟩:=hl
    have hu:=hT.desc _ _ hd
    obtain ⟨hp,hY⟩:=Ga j2
    have sG:k'=k:=hk.bG hp
    subst sG
    cases cS with
    |map hA =>
     rename_i L
     have hb:=hs.jX A L hA
     rw [hg] at hb
     obtain ⟨ces,hc,he⟩:=hb
     obtain ⟨r',hf,cN⟩:=OL hT w j2 he hr
     have lL:∀ em,(Instr.checkKey em 10000 kt k').run P w=.ok () w:=fun em=>LS hT w em 20 9980 kt k' hY
     have iH:∀ o:Obj,(setObj L.b o).run P w=.ok () (w.putObj L.b o):=by
      intro o
      simp [setObj,Sem.run,hc,World.putObj]
     cases r with
     |none =>
      cases r' with
      |some q=>exact cN.elim
      |none =>
       simp only [Option.map_eq_some_iff,Prod.mk.injEq] at hl
       obtain ⟨z,hz,rfl,rfl⟩:=hl
       obtain ⟨z1,z2⟩:=OV (ρ:=ρ) hT hz w
       obtain ⟨f1,f2⟩:=YG (clock':=clock+1) hs hA hg hc (he.push (clock:=clock) hp z2)
       refine ⟨_,_,?_,f1,f2,(cu.cons z2 (.cons (.int .i64 clock) (.nil ρ))).iB⟩
       simp [Instr.mapEntry,run_underlying hu,getObj,Sem.run,hc,lL,hf,iH,z1,goInt]
     |some q =>
      obtain ⟨i,v1⟩:=q
      cases r' with
      |none=>exact cN.elim
      |some q' =>
       obtain ⟨j,u1⟩:=q'
       obtain ⟨rfl,lN⟩:=cN
       simp only [Option.bind_eq_some_iff] at hl
       obtain ⟨e,Jn,hl⟩:=hl
       split at hl
       ·rename_i gD
        cases hl
        have kE:i < ces.size:=by
         have h1:=(List.getElem?_eq_some_iff.1 Jn).1
         have:=he.1
         simp at this
         omega
        obtain ⟨k1,k2,k3,k4⟩:=he.2 i e ces[i] Jn (by simp)
        have Wb:ces[i].key=e.key:=k1.bG k4
        have tV:=zhP gD
        obtain ⟨f1,f2⟩:=YG (clock':=clock) hs hA hg hc (he.modify i (f:=fun e=>{ e with key:=k' }) (g:=fun e=>{ e with key:=k' }) (fun a b h1 h2 h3 h4=>⟨.cX ρ hp,h2,h3,hp⟩))
        refine ⟨_,_,?_,f1,f2,(cu.cons lN (.cons (.int .i64 e.born) (.nil ρ))).iB⟩
        simp [Instr.mapEntry,run_underlying hu,getObj,Sem.run,hc,lL,hf,iH,Instr.keyThatStays,Wb,tV,kE,goInt,k3]
       ·cases hl
   ·cases hl
  ·cases hl
 ·cases hl

theorem zii {s:Int}:∀ {es ces:List MapEntry} {n i:Nat},(∀ (i:Nat) a b,es[i]? = some a→ces[i]? = some b→a.born=b.born)→es.length=ces.length→GD s es n=some i→n≤i∧ces.findIdx? (fun e=>(e.born:Int) == s)=some (i - n)
 | [],_,_,_,_,_,h=>by cases h
 |a::es,[],_,_,_,hl,_=>by cases hl
 |a::es,b::ces,n,i,hb,hl,h=>by
  have h0:=hb 0 a b rfl rfl
  rw [GD] at h
  rw [List.findIdx?_cons]
  split at h
  ·rename_i hc
   cases h
   rw [h0] at hc
   simp [hc]
  ·rename_i hc
   rw [h0] at hc
   obtain ⟨h1,h2⟩:=zii (es:=es) (ces:=ces) (fun i a b ha kj=>hb (i+1) a b (by simpa using ha) (by simpa using kj)) (by simpa using hl) h
   refine ⟨by omega,?_⟩
   have:¬ ((b.born:Int) == s)=true:=by simpa using hc
   rw [if_neg this,h2]
   simp
   omega

theorem zg9 (hs:bK ρ h w) {t:TypeId} {x y s s' v v':Value} (cS:VR ρ x y) (vS:VR ρ s s') (hv:VR ρ v v') (hl:sd x s v h=some h') :
 ∃ w',(Instr.entryStore t y s' v').run P w=.ok () w'∧Fr ρ ρ h h' w w'∧bK ρ h' w':=by
 unfold sd at hl
 split at hl
 ·rename_i A kd b
  split at hl
  ·rename_i es clock hg
   simp only [Option.map_eq_some_iff] at hl
   obtain ⟨i,hi,rfl⟩:=hl
   cases vS
   cases cS with
   |map hA =>
    rename_i L
    have hb:=hs.jX A L hA
    rw [hg] at hb
    obtain ⟨ces,hc,he⟩:=hb
    have iH:∀ o:Obj,(setObj L.b o).run P w=.ok () (w.putObj L.b o):=by
     intro o
     simp [setObj,Sem.run,hc,World.putObj]
    obtain ⟨_,C0⟩:=zii (ces:=ces.toList) (fun i a b ha hb=>(he.2 i a b ha hb).2.2.1) he.1 hi
    have VU:ces.findIdx? (fun e=>(e.born:Int) == b)=some i:=by
     cases ces with|mk l=>simpa using C0
    obtain ⟨f1,f2⟩:=YG (clock':=clock) hs hA hg hc (he.modify i (f:=fun e=>{ e with val:=v }) (g:=fun e=>{ e with val:=v' }) (fun a b h1 h2 h3 h4=>⟨h1,hv,h3,h4⟩))
    refine ⟨_,?_,f1,f2⟩
    simp [Instr.entryStore,getObj,Sem.run,hc,iH,asInt,asIntOf,VU]
  ·cases hl
 ·cases hl

end
end Go.Am
namespace Go.Am
open Go.RowKit
section
variable {P:Program} {T:bD} {ρ:ct} {h h':Heap} {w:World}

theorem kY.eraseIdx {l m:List MapEntry} (hl:kY ρ l m) (i:Nat):kY ρ (l.eraseIdx i) (m.eraseIdx i):=by
 have hlen:=hl.1
 refine ⟨by rw [List.length_eraseIdx,List.length_eraseIdx,hlen],fun j x y hx hy=>?_⟩
 rw [List.getElem?_eraseIdx] at hx hy
 split at hx
 ·rename_i hj;rw [if_pos hj] at hy;exact hl.2 j x y hx hy
 ·rename_i hj;rw [if_neg hj] at hy;exact hl.2 (j+1) x y hx hy

theorem zlj (hT:T.Fits P) (hs:bK ρ h w) {t ty:TypeId} {ts:List TypeId} {x y k k':Value} (cS:VR ρ x y) (hk:VR ρ k k') (hl:sY T t x k h=some h') :
 ∃ w',(Builtin.delete_ (t::ts).toArray ty #[y,k']).run P w=.ok (.tuple #[]) w'∧Fr ρ ρ h h' w w'∧bK ρ h' w':=by
 unfold sY at hl
 split at hl
 ·rename_i kt et hd
  split at hl
  ·rename_i j2
   cases hl
   obtain ⟨hp,hY⟩:=Ga j2
   have sG:k'=k:=hk.bG hp
   subst sG
   cases cS
   refine ⟨w,?_,Fr.refl _ _ _,hs⟩
   have lL:∀ em,(Instr.checkKey em 10000 kt k').run P w=.ok () w:=fun em=>LS hT w em 20 9980 kt k' hY
   simp [Builtin.delete_,run_underlying (hT.desc _ _ hd),lL]
  ·cases hl
 ·rename_i kt et A hd
  split at hl
  ·rename_i es clock hg
   split at hl
   ·rename_i j2
    simp only [Option.bind_eq_some_iff] at hl
    obtain ⟨r,hr,hl⟩:=hl
    have hu:=hT.desc _ _ hd
    obtain ⟨hp,hY⟩:=Ga j2
    have sG:k'=k:=hk.bG hp
    subst sG
    cases cS with
    |map hA =>
     rename_i L
     have hb:=hs.jX A L hA
     rw [hg] at hb
     obtain ⟨ces,hc,he⟩:=hb
     obtain ⟨r',hf,cN⟩:=OL hT w j2 he hr
     have lL:∀ em,(Instr.checkKey em 10000 kt k').run P w=.ok () w:=fun em=>LS hT w em 20 9980 kt k' hY
     have df:(getObj L.b).run P w=.ok (.map ces clock) w:=by simp [getObj,Sem.run,hc]
     have iH:∀ o:Obj,(setObj L.b o).run P w=.ok () (w.putObj L.b o):=by
      intro o
      simp [setObj,Sem.run,hc,World.putObj]
     have aS:L.b < w.heap.size:=(Array.getElem?_eq_some_iff.1 hc).1
     have qk:∀ (b':bh) (o:Obj),og ρ (w.putObj L.b o) L (some b')→Fr ρ ρ h (h.set A b') w (w.putObj L.b o)∧bK ρ (h.set A b') (w.putObj L.b o):=by
      intro b' o kj
      refine Ma hs hA hg (by simp) (by simp) rfl rfl rfl (by simp [World.putObj]) (fun q hq=>?_) kj
      simp only [World.putObj]
      rw [Array.getElem?_setIfInBounds_ne (Ne.symm hq)]
     have nt:∀ o:Obj,(w.putObj L.b o).heap[L.b]? = some o:=by
      intro o
      simp [World.putObj,aS]
     cases r with
     |none =>
      cases r' with
      |some q=>exact cN.elim
      |none =>
       cases hl
       refine ⟨w.putObj L.b (.map ces clock),?_,qk _ _ ⟨_,nt _,he⟩⟩
       simp [Builtin.delete_,run_underlying hu,df,lL,hf,iH]
     |some q =>
      obtain ⟨i,v1⟩:=q
      cases r' with
      |none=>exact cN.elim
      |some q' =>
       obtain ⟨j,u1⟩:=q'
       obtain ⟨rfl,_⟩:=cN
       cases hl
       refine ⟨w.putObj L.b (.map (ces.eraseIdxIfInBounds i) clock),?_,qk _ _ ⟨_,nt _,?_⟩⟩
       ·simp [Builtin.delete_,run_underlying hu,df,lL,hf,iH]
       ·have e1:(ces.eraseIdxIfInBounds i).toList=ces.toList.eraseIdx i:=by simp
        rw [e1]
        exact he.eraseIdx i
   ·cases hl
  ·cases hl
 ·cases hl

theorem zmX (hT:T.Fits P) {t:TypeId} {x y v:Value} (cS:VR ρ x y) (hi:BD T t x=some v) (w:World):∃ u,(Instr.makeInterface t y).run P w=.ok u w∧VR ρ v u:=by
 unfold BD at hi
 split at hi
 ·cases hi
 ·rename_i d aO hd
  cases hi
  refine ⟨.iface t y,?_,.iface t cS⟩
  have:=hT.desc _ _ hd
  simp only [Instr.makeInterface,Sem.run_bind,run_underlying this,Result.andThen_ok]
  cases d <;> first|rfl|exact (aO _ rfl).elim
 ·cases hi

theorem zqJ (hT:T.Fits P) {t:TypeId} {v:Value} (hz:T.zero t=some v) (w:World):(zeroValue t).run P w=.ok v w:=(OV (ρ:=fun _=>none) hT hz w).1

theorem zk1 (hT:T.Fits P) {t xt:TypeId} {x y v:Value} {ok:Bool} (cS:VR ρ x y) (hi:EC T x t ok=some v) (w:World):∃ u,(Instr.typeAssert y xt t ok).run P w=.ok u w∧VR ρ v u:=by
 unfold EC at hi
 split at hi
 ·cases hi
 ·rename_i d aO hd
  have hu:=hT.desc _ _ hd
  have Ws:∀ ms,d≠.interface ms:=fun ms e=>aO ms e
  have AD:∀ z,T.zero t=some z→VR ρ (.tuple #[z,.bool false]) (.tuple #[z,.bool false]):=fun z hz=>(cu.cons (OV (ρ:=ρ) hT hz w).2 (.cons (.bool false) (.nil ρ))).iB
  split at hi
  ·rename_i t' v'
   cases cS with
   |iface _ cS =>
    rename_i y'
    split at hi
    ·rename_i e
     subst e
     cases hi
     refine ⟨if ok then .tuple #[y',.bool true] else y',?_,?_⟩
     ·simp only [Instr.typeAssert,Sem.run_bind,run_underlying hu,Result.andThen_ok]
      cases d <;> first|(exact (Ws _ rfl).elim)|simp
     ·cases ok
      ·exact cS
      ·exact (cu.cons cS (.cons (.bool true) (.nil ρ))).iB
    ·rename_i e
     split at hi
     ·rename_i di
      simp only [Option.map_eq_some_iff] at hi
      obtain ⟨z,hz,rfl⟩:=hi
      refine ⟨_,?_,AD z hz⟩
      simp only [Instr.typeAssert,Sem.run_bind,run_underlying hu,Result.andThen_ok]
      cases d <;> first|(exact (Ws _ rfl).elim)|simp [e,di,zqJ hT hz]
     ·cases hi
  ·cases cS
   split at hi
   ·rename_i di
    simp only [Option.map_eq_some_iff] at hi
    obtain ⟨z,hz,rfl⟩:=hi
    refine ⟨_,?_,AD z hz⟩
    simp only [Instr.typeAssert,Sem.run_bind,run_underlying hu,Result.andThen_ok]
    cases d <;> first|(exact (Ws _ rfl).elim)|simp [di,zqJ hT hz]
   ·cases hi
  ·cases hi
 ·cases hi

def Pw (ρ:ct):fN→Place→Prop
 | .val v,.val u=>VR ρ v u
 | .var p,.var a=>VR ρ p (.pointer (some a))
 |_,_=>False

theorem zgG (hT:T.Fits P) (hs:bK ρ h w) {t:TypeId} {p v:Value} {a:Addr} (hp:VR ρ p (.pointer (some a))) (hl:dz T t p h=some v):∃ u,(loadVar t a).run P w=.ok u w∧VR ρ v u:=by
 obtain ⟨u,h1,h2⟩:=YS hT hs hp hl
 refine ⟨u,?_,h2⟩
 rw [← h1]
 simp [Instr.loadAt,Instr.sureAddr]
theorem O1 (hT:T.Fits P) (hs:bK ρ h w) {t:TypeId} {x:fN} {y:Place} {v:Value} (cS:Pw ρ x y) (hg:x.get T t h=some v):∃ u,(y.get t).run P w=.ok u w∧VR ρ v u:=by
 cases x with
 |val v' =>
  cases y with
  |val u=>cases hg;exact ⟨u,rfl,cS⟩
  |var a=>exact cS.elim
 |var p =>
  cases y with
  |val u=>exact cS.elim
  |var a=>exact zgG hT hs cS hg
theorem zsQ {p u:Value} {s:TypeId} {f:Nat} {q:Value} (hp:VR ρ p u) (hf:cV T s p f=some q):∃ a,u=.pointer (some a)∧(asAddr u).run P w=.ok a w:=by
 unfold cV at hf
 split at hf
 ·cases hp with
  |ptr hA=>exact ⟨_,rfl,by simp [asAddr]⟩
 ·cases hf
theorem zeT (hT:T.Fits P) {s:TypeId} {fs:Array Field} {p q:Value} {a:Addr} {i:Nat} {f:Field} (hd:T.desc s=some (.struct fs)) (hi:fs[i]? = some f) (hp:VR ρ p (.pointer (some a))) (hf:cV T s p i=some q) :
 ∃ a',(fieldPlace a f).run P w=.ok a' w∧VR ρ q (.pointer (some a')):=by
 unfold cV at hf
 rw [hd] at hf
 split at hf
 ·rename_i fs' A o e1
  cases e1
  simp only [Option.bind_eq_some_iff] at hf
  obtain ⟨fl,xf,n,hn,hf⟩:=hf
  rw [hi] at xf
  cases xf
  split at hf
  ·cases hf
  ·rename_i h0
   cases hf
   cases hp with
   |ptr hA =>
    rename_i L
    refine ⟨⟨L.b,L.s+(o+f.offset),none⟩,?_,.ptr hA⟩
    simp [fieldPlace,se hT hn,h0,Addr.add_mid,Nat.add_assoc]
 ·cases hf

theorem OC (hT:T.Fits P) (hs:bK ρ h w):∀ (l:List FieldStep) (t:TypeId) (x:fN) (y:Place) (r:TypeId × fN),Pw ρ x y→Gv T h l t x=some r→∃ y',(follow l t y).run P w=.ok (r.1,y') w∧Pw ρ r.2 y'
 | [],t,x,y,r,cS,hf=>by cases hf;exact ⟨y,by simp [follow],cS⟩
 |s::l,t,x,y,r,cS,hf=>by
  simp only [Gv] at hf
  split at hf
  ·rename_i fs hd
   simp only [Option.bind_eq_some_iff] at hf
   obtain ⟨f,hi,hf⟩:=hf
   have hu:=hT.desc _ _ hd
   split at hf
   ·rename_i vO
    simp only [Option.bind_eq_some_iff] at hf
    obtain ⟨p,hp,q,hq,hf⟩:=hf
    obtain ⟨u,h1,h2⟩:=O1 hT hs cS hp
    obtain ⟨a,rfl,h3⟩:=zsQ (P:=P) (w:=w) h2 hq
    obtain ⟨a',h4,h5⟩:=zeT (P:=P) (w:=w) hT hd hi h2 hq
    obtain ⟨y',h6,h7⟩:=OC hT hs l _ (.var q) (.var a') r h5 hf
    refine ⟨y',?_,h7⟩
    simp only [follow,Sem.run_bind,run_underlying hu,Result.andThen_ok,hi,vO,if_true,h1,h3,h4,h6]
   ·rename_i vO
    split at hf
    ·rename_i p
     simp only [Option.bind_eq_some_iff] at hf
     obtain ⟨q,hq,hf⟩:=hf
     cases y with
     |val u=>exact cS.elim
     |var a =>
      obtain ⟨a',h4,h5⟩:=zeT (P:=P) (w:=w) hT hd hi cS hq
      obtain ⟨y',h6,h7⟩:=OC hT hs l _ (.var q) (.var a') r h5 hf
      refine ⟨y',?_,h7⟩
      simp only [follow,Sem.run_bind,run_underlying hu,Result.andThen_ok,hi,vO,Bool.false_eq_true,if_false,h4,h6]
    ·rename_i cs
     simp only [Option.bind_eq_some_iff] at hf
     obtain ⟨v,hv,hf⟩:=hf
     cases y with
     |var a=>exact cS.elim
     |val u =>
      cases cS with
      |agg hc hh =>
       rename_i ds
       obtain ⟨vc,h4,h5⟩:=zi2 (ds:=ds) hT (VR.agg hc hh).B6 hv w
       obtain ⟨y',h6,h7⟩:=OC hT hs l _ (.val v) (.val vc) r h5 hf
       refine ⟨y',?_,h7⟩
       simp only [follow,Sem.run_bind,run_underlying hu,Result.andThen_ok,hi,vO,Bool.false_eq_true,if_false,h4,h6]
    ·cases hf
  ·cases hf

theorem zjg (hT:T.Fits P) (hs:bK ρ h w) {xt:TypeId} {x:fN} {y:Place} {ptr:Bool} {v:Value} (cS:Pw ρ x y) (hr:Zp T xt x ptr h=some v) (wr:Option String):∃ u,(receiverAt xt y ptr wr).run P w=.ok u w∧VR ρ v u:=by
 unfold Zp at hr
 split at hr
 ·rename_i e hd
  obtain ⟨u,h1,h2⟩:=O1 hT hs cS hr
  refine ⟨u,?_,h2⟩
  simp only [receiverAt,Sem.run_bind,run_underlying (hT.desc _ _ hd),Result.andThen_ok,h1]
 ·rename_i elem hd
  simp only [Option.bind_eq_some_iff] at hr
  obtain ⟨p,hp,hr⟩:=hr
  obtain ⟨u,h1,h2⟩:=O1 hT hs cS hp
  have hpu:∃ a,u=.pointer (some a):=by
   unfold dz at hr
   split at hr
   ·cases h2 with
    |ptr hA=>exact ⟨_,rfl⟩
   ·cases hr
  obtain ⟨a,rfl⟩:=hpu
  obtain ⟨u',h3,h4⟩:=zgG hT hs h2 hr
  refine ⟨u',?_,h4⟩
  simp only [receiverAt,Sem.run_bind,run_underlying (hT.desc _ _ hd),Result.andThen_ok,h1]
  cases wr with
  |none=>simp [asAddr,h3]
  |some nm =>
   have hw:(Builtin.ssaWrapNilChk_ #[xt] xt #[.pointer (some a),strVal "",strVal nm]).run P w=.ok (.pointer (some a)) w:=rfl
   simp [hw,asAddr,h3]
 ·rename_i d p aO hd
  split at hr
  ·rename_i a
   cases hr
   cases y with
   |val u=>exact cS.elim
   |var a' =>
    refine ⟨.pointer (some a'),?_,cS⟩
    simp only [receiverAt,Sem.run_bind,run_underlying (hT.desc _ _ hd),Result.andThen_ok]
    cases d <;> first|rfl|exact (aO _ rfl).elim
  ·cases hr
 ·rename_i d aO hd
  obtain ⟨u,h1,h2⟩:=O1 hT hs cS hr
  refine ⟨u,?_,h2⟩
  simp only [receiverAt,Sem.run_bind,run_underlying (hT.desc _ _ hd),Result.andThen_ok]
  cases d <;> first|exact h1|exact (aO _ rfl).elim
 ·cases hr

theorem zlF (hT:T.Fits P) (hs:bK ρ h w) {t:TypeId} {v u r:Value} {name:String} {f:FuncId} (hv:VR ρ v u) (hm:rf T t v name h=some (f,r)) (fuel:Nat):∃ r',(method (fuel+1) t u name).run P w=.ok (f,r') w∧VR ρ r r':=by
 unfold rf at hm
 simp only [Option.bind_eq_some_iff,Prod.exists] at hm
 obtain ⟨m,gH,xt,x,hf,hm⟩:=hm
 obtain ⟨i,hi,Jr⟩:=hT.uX _ _ _ gH
 obtain ⟨y,h1,h2⟩:=OC hT hs m.path.toList t (.val v) (.val u) (xt,x) hv hf
 split at hm
 ·rename_i f' ptr rJ
  simp only [Option.map_eq_some_iff,Prod.mk.injEq] at hm
  obtain ⟨r1,hr,rfl,rfl⟩:=hm
  obtain ⟨r',h3,h4⟩:=zjg hT hs h2 hr (if m.path.isEmpty then some ((name.splitOn ".").getLastD name) else none)
  refine ⟨r',?_,h4⟩
  have hti:(typeInfo t).run P w=.ok i w:=by simp [typeInfo,hi]
  simp only [method,Sem.run_bind,hti,Result.andThen_ok,Jr,h1,rJ,h3,Sem.run_pure]
 ·cases hm

theorem zqV (hT:T.Fits P) {t ty:TypeId} {x y v:Value} (cS:VR ρ x y) (hc:tF T t x=some v) (ts:List TypeId) (w:World):∃ u,(Builtin.cap_ (t::ts).toArray ty #[y]).run P w=.ok u w∧VR ρ v u:=by
 unfold tF at hc
 split at hc
 ·rename_i e a n c hd
  split at hc
  ·rename_i aS
   cases hc
   have key:∃ a' n',y=.slice a' n' c:=by
    cases cS with
    |cY=>exact ⟨_,_,rfl⟩
    |slice=>exact ⟨_,_,rfl⟩
    |ck h1 h2=>omega
   obtain ⟨a',n',rfl⟩:=key
   exact ⟨_,by simp [Builtin.cap_,run_underlying (hT.desc _ _ hd),goInt],.int _ _⟩
  ·cases hc
 ·cases hc

theorem zkg:∀ (l m:List Value) (bs:List UInt8),cu ρ l m→MW l=some bs→∃ ns:List Int,m=ns.map (Value.int .u8)∧bs=ns.map fun n=>UInt8.ofNat n.toNat
 | [],m,bs,hv,hb=>by
  rw [hv.of_nil]
  cases hb
  exact ⟨[],rfl,rfl⟩
 |x::l,m,bs,hv,hb=>by
  obtain ⟨y,m',rfl,h1,h2⟩:=hv.of_cons
  cases x with
  |int k n =>
   cases k <;> simp only [MW] at hb <;> try cases hb
   simp only [Option.map_eq_some_iff] at hb
   obtain ⟨bs',kj,rfl⟩:=hb
   cases h1
   obtain ⟨ns,rfl,rfl⟩:=zkg l m' bs' h2 kj
   exact ⟨n::ns,rfl,rfl⟩
  |_=>simp [MW] at hb

theorem zjR (hT:T.Fits P) (hs:bK ρ h w) {s d:TypeId} {x y v:Value} (cS:VR ρ x y) (hb:Gr T s d x h=some v):∃ u,(convert s d y).run P w=.ok u w∧VR ρ v u:=by
 unfold Gr at hb
 split at hb
 ·rename_i e a n c uI VG
  split at hb
  ·rename_i hed
   simp only [Option.bind_eq_some_iff,Option.map_eq_some_iff] at hb
   obtain ⟨l,hl,bs,Ji,rfl⟩:=hb
   obtain ⟨a',c',m,rfl,hv,hlen,dG⟩:=Yw (P:=P) hs cS hl
   obtain ⟨ns,rfl,rfl⟩:=zkg l m bs hv Ji
   refine ⟨_,?_,.string _⟩
   rw [run_convert_bytes_string w s d e a' n c' (hT.desc _ _ uI) (hT.desc _ _ hed) (hT.desc _ _ VG)]
   cases a' with
   |none =>
    have hn:n=0:=by cases cS;rfl
    subst hn
    have:ns=[]:=by simpa using hlen
    subst this
    rfl
   |some ad =>
    have h1:=dG w rfl n (Nat.le_refl _)
    have h2:(loadCells ad n).run P w=.ok (ns.map (Value.int .u8)).toArray w:=by
     have h3:(Builtin.firstCells 1 n (.slice (some ad) n c'))=loadCells ad (n*1):=rfl
     rw [h3,Nat.mul_one] at h1
     rw [h1]
     congr 2
     exact List.take_of_length_le (by rw [hlen,Nat.mul_one];exact Nat.le_refl _)
    rw [run_bytesToString w ad n c' ns h2,foldl_push_bytes]
    simp
  ·cases hb
 ·cases hb

theorem zkb (hT:T.Fits P) (hs:bK ρ h w) (bQ:eY ρ h h') {s d:TypeId} {x y v:Value} (jd:Gm T s=true) (hx:VR ρ x y) (hl:Bp T d x h=some (v,h')) :
 ∃ ρ' u w',(convert s d y).run P w=.ok u w'∧Fr ρ ρ' h h' w w'∧bK ρ' h' w'∧VR ρ' v u:=by
 have jE:P.underlying s=some .string:=by
  unfold Gm at jd
  split at jd
  ·rename_i hd;exact hT.desc _ _ hd
  ·cases jd
 unfold Bp at hl
 split at hl
 ·rename_i e b hd
  split at hl
  ·rename_i sy z he hi
   split at hl
   ·cases hl
   ·rename_i DI
    have dB:¬ b.size > 1152921504606846976:=fun g=>DI (.inl g)
    have VD:e=PI:=Decidable.byContradiction fun g=>DI (.inr g)
    cases hl
    cases hx
    have dG:=Lib.run_convert_string_bytes w s d e b jE (hT.desc _ _ hd) (hT.desc _ _ he)
    have lr:=grownCap_ge w b.size 0 e
    have hle:=grownCap_le_maxLen w b.size 0 e (by unfold maxLen;omega)
    have kC:(Lib.bytesCells w e b).size=grownCap w b.size 0 e:=by
     have Ji:b.data.size=b.size:=rfl
     simp only [Lib.bytesCells,Array.size_append,Array.size_map,Array.size_replicate,Ji]
     omega
    have hW:(Lib.bytesWorld w e b).heap=w.heap.push (.cells (Lib.bytesCells w e b) e ((Lib.bytesCells w e b).size,(Lib.bytesCells w e b).size+1)):=by
     apply Array.ext_getElem?
     intro j
     rw [Array.getElem?_push]
     by_cases hj:j=w.heap.size
     ·rw [if_pos hj,hj,Lib.bytesWorld_at_new]
     ·rw [if_neg hj]
      by_cases xi:j < w.heap.size
      ·exact Lib.bytesWorld_at_old w e b j xi
      ·rw [Array.getElem?_eq_none (by rw [Lib.bytesWorld_size];omega),Array.getElem?_eq_none (by omega)]
    have iF:=zP (k:=1) (q:=b.size) (by omega) (by unfold G;omega)
    obtain ⟨ρ',hρ,cN,dp⟩:=zjb (W:=Lib.bytesWorld w e b) (cs:=b.data.toList.map fun u=>Value.int .u8 u.toNat) (m:=b.data.toList.map fun u=>Value.int .u8 u.toNat) hs (bQ _ (Nat.le_refl _) (by rw [Heap.size_push];omega))
     (fz:=((Lib.bytesCells w e b).size,(Lib.bytesCells w e b).size+1)) ⟨by intro j hj hh;have:=hh.1;simp at this;omega,.inl VD⟩ hW
     (by simp [Lib.bytesWorld,World.freeze,World.alloc,World.drew,-World.alloc_eq,-World.drew_eq]) (by simp [Lib.bytesWorld,World.freeze,World.alloc,World.drew,-World.alloc_eq,-World.drew_eq]) (by simp [Lib.bytesWorld,World.freeze,World.alloc,World.drew,-World.alloc_eq,-World.drew_eq])
     (by refine pH ?_ (by simp) fun j hj=>?_
         ·simp [Lib.bytesCells]
         ·simp only [List.length_map,Array.length_toList] at hj
          rw [Nat.zero_add]
          simp only [Lib.bytesCells,Array.toList_append,Array.toList_map]
          rw [List.getElem?_append_left (by simpa using hj)])
     (by refine ⟨rfl,fun j a c ha hc=>?_⟩
         rw [ha] at hc
         cases hc
         rw [List.getElem?_map,Option.map_eq_some_iff] at ha
         obtain ⟨q,_,rfl⟩:=ha
         exact .int .u8 _)
    refine ⟨ρ',_,_,dG,cN,dp,?_⟩
    refine .ck hρ iF.1 (by rw [iF.2.1];exact lr) (by rw [iF.2.1];exact Nat.le_refl _) (by rw [iF.2.2];omega) hle (fun _=>⟨by simp,?_⟩)
    rw [iF.2.2]
    show 0+0+grownCap w b.size 0 e*1≤(Lib.bytesCells w e b).size
    rw [kC]
    omega
  ·cases hl
 ·cases hl
end
end Go.Am
namespace Go.Am
open Go.RowKit

section
variable {P:Program} {T:bD} {ρ:ct} {h h':Heap} {w:World}

theorem cd.put {e:Env} {a:Act} (he:cd ρ e a.tmps) {v u:Value} (hv:VR ρ v u) (d:Option Tmp):cd ρ (Am.put e d v) (a.put d u).tmps:=by
 cases d with
 |none=>exact he
 |some d =>
  refine ⟨by simp [Am.put,Act.put,Env.length_set,he.1],fun i=>?_⟩
  simp only [Am.put,Act.put,Env.aC]
  by_cases hi:i=d∧d < e.length
  ·rw [if_pos hi]
   obtain ⟨rfl,aS⟩:=hi
   have:(a.tmps.setIfInBounds i u).getD i undef=u:=by
    have Dg:i < a.tmps.size:=by rw [← he.1];exact aS
    simp [Dg]
   rw [this]
   exact hv
  ·rw [if_neg hi]
   have:(a.tmps.setIfInBounds d u).getD i undef=a.tmps.getD i undef:=by
    by_cases hid:d=i
    ·subst hid
     have:¬ d < a.tmps.size:=by rw [← he.1];exact fun aS=>hi ⟨rfl,aS⟩
     simp [this]
    ·simp [Array.getElem?_setIfInBounds_ne hid]
   rw [this]
   exact he.2 i

theorem cd.operand {e:Env} {a:Act} (he:cd ρ e a.tmps) {x:Operand} (hx:qC ρ x):VR ρ (aZ e x) (a.eval x):=by
 cases x with
 |tmp t=>exact he.2 t
 |const v=>exact .cX ρ hx
 |global g =>
  obtain ⟨t,ht⟩:=hx
  exact .ptr (o:=0) ht
 |func f=>exact .func _ rfl rfl (by intro i x y hx;simp at hx) (by intro i x y hx;simp at hx)

theorem cd.operands {e:Env} {a:Act} (he:cd ρ e a.tmps) (xs:List Operand) (hx:∀ x∈xs,qC ρ x):cu ρ (xs.map (aZ e)) (xs.map a.eval):=by
 induction xs with
 |nil=>exact .nil ρ
 |cons x xs ih =>
  exact .cons (he.operand (hx x (by simp))) (ih fun y hy=>hx y (by simp [hy]))

theorem cd.opt {e:Env} {a:Act} (he:cd ρ e a.tmps) {x:Option Operand} (hx:∀ y,x=some y→qC ρ y):pM ρ (x.map (aZ e)) (x.map a.eval):=by
 cases x with
 |none=>trivial
 |some y=>exact he.operand (hx y rfl)

def X7 (P:Program) (ρ:ct) (h h':Heap) (w:World) (v:Value) (f:FuncId) (aF:Array Value):Prop :=
 (∃ ρ' u w',(callFunc f aF).run P w=.ok (.value u) w'∧Fr ρ ρ' h h' w w'∧bK ρ' h' w'∧VR ρ' v u) ∨
 ((callFunc f aF).run P w=.ok (.enter f aF) w∧Calls P f aF w fun ed w'=>∃ ρ' u,ed=.returned u∧Fr ρ ρ' h h' w w'∧bK ρ' h' w'∧VR ρ' v u)

def zDu (P:Program) (ρ:ct) (h h':Heap) (w:World) (v:Value) (l:Nat) (aF:Array Value):Prop :=
 ∃ f tmps assign body,(Instr.yield l aF).run P w=.ok (.round l f tmps assign body) w∧RoundIn Fence.wide 0 P l f tmps assign body w fun ed w'=>∃ ρ' u,ed=.returned u∧Fr ρ ρ' h h' w w'∧bK ρ' h' w'∧VR ρ' v u

structure CS (P:Program) (gs:List Nat) (C:Fn→List Value→Heap→Option (Value × Heap)):Prop where
 fn:∀ f args h v h',C (.func f) args h=some (v,h')→∀ ρ w (aF:Array Value),cL gs ρ→bK ρ h w→eY ρ h h'→cu ρ args aF.toList→X7 P ρ h h' w v f aF
 yield:∀ A args h v h',C (.yield A) args h=some (v,h')→∀ ρ w (aF:Array Value) L,ρ A=some L→cL gs ρ→bK ρ h w→eY ρ h h'→cu ρ args aF.toList→zDu P ρ h h' w v L.b aF

def Fg (P:Program) (ρ:ct) (h h':Heap) (w:World) (v:Value) (r:Result Next):Prop :=
 (∃ ρ' u w',(r=.ok (.value u) w'∨(r=.ok .skip w'∧u=undef))∧Fr ρ ρ' h h' w w'∧bK ρ' h' w'∧VR ρ' v u) ∨
 (∃ f aF,r=.ok (.enter f aF) w∧Calls P f aF w fun ed w'=>∃ ρ' u,ed=.returned u∧Fr ρ ρ' h h' w w'∧bK ρ' h' w'∧VR ρ' v u) ∨
 (∃ l f tmps assign body,r=.ok (.round l f tmps assign body) w∧RoundIn Fence.wide 0 P l f tmps assign body w fun ed w'=>∃ ρ' u,ed=.returned u∧Fr ρ ρ' h h' w w'∧bK ρ' h' w'∧VR ρ' v u)

theorem World.bI (w:World) (o:Obj):(w.alloc o).heap=w.heap.push o:=rfl

theorem Fg.still (hs:bK ρ h w) {v u:Value} {r:Result Next} (hr:r=.ok (.value u) w) (hv:VR ρ v u):Fg P ρ h h w v r :=
 .inl ⟨ρ,u,w,.inl hr,Fr.refl _ _ _,hs,hv⟩

theorem LY {e:Env} {a:Act} {o:Oper} (hs:bK ρ h w) (he:cd ρ e a.tmps) (di:jV ρ o) {v:Value} (hp:gi P e o h=some (v,h')) (CU:(∀ x∈o.op.operands,a.eval x=aZ e x)→execOp a.eval o=execOp (aZ e) o) :
 Fg P ρ h h' w v ((execOp a.eval o).run P w):=by
 unfold gi at hp
 split at hp
 ·rename_i az
  have heq:∀ x∈o.op.operands,a.eval x=aZ e x:=by
   intro x hx
   have h1:=List.all_eq_true.1 az x (by simpa using hx)
   exact (he.operand (di x (by simpa using hx))).bG h1
  rw [CU heq]
  split at hp
  ·rename_i v' hr
   split at hp
   ·rename_i nB
    cases hp
    exact .still hs (LR P _ _ hr w) (.cX ρ nB)
   ·cases hp
  ·cases hp
 ·cases hp

theorem zkI {v:Value} (hs:bK ρ h w) (fk:ρ h.size=none) {t:TypeId} {cs:List Value} (u:Value) (hv:cu ρ cs u.cells.toList) :
 ∃ ρ',(newVar t u).run P w=.ok ⟨w.heap.size,0,none⟩ (w.alloc (.cells u.cells t))∧Fr ρ ρ' h (newRow t cs h).2 w (w.alloc (.cells u.cells t))∧bK ρ' (newRow t cs h).2 (w.alloc (.cells u.cells t)) ∧
   VR ρ' (newRow t cs h).1 (.pointer (some ⟨w.heap.size,0,none⟩)):=by
 have _:=v
 obtain ⟨ρ',hρ,cN,dp⟩:=Gb (W:=w.alloc (.cells u.cells t)) (cs:=cs) (m:=u.cells.toList) hs fk rfl rfl rfl rfl (by rw [hv.1];exact pH (by omega) rfl (fun j _=>by rw [Nat.zero_add])) hv
 refine ⟨ρ',by simp [newVar,Go.newRow],cN,dp,?_⟩
 have:=VR.ptr (ρ:=ρ') (o:=0) hρ
 simpa [newRow] using this

theorem zeZ (ps:Array (Nat × Operand)) (f:Operand→Value):(ps.map fun (i,x)=>(i,f x))=(ps.toList.map fun (i,x)=>(i,f x)).toArray:=by
 apply Array.ext'
 simp

theorem znA {e:Env} {a:Act} (he:cd ρ e a.tmps) (ps:List (Nat × Operand)) (di:∀ x∈ps.map (·.2),qC ρ x) :
 (ps.map fun (i,x)=>(i,aZ e x)).length=(ps.map fun (i,x)=>(i,a.eval x)).length ∧
 ∀ (i:Nat) (x y:Nat × Value),(ps.map fun (i,x)=>(i,aZ e x))[i]? = some x→(ps.map fun (i,x)=>(i,a.eval x))[i]? = some y→x.1=y.1∧VR ρ x.2 y.2:=by
 refine ⟨by simp,fun i x y hx hy=>?_⟩
 rw [List.getElem?_map,Option.map_eq_some_iff] at hx hy
 obtain ⟨⟨j,o⟩,h1,rfl⟩:=hx
 obtain ⟨⟨j',o'⟩,h2,rfl⟩:=hy
 rw [h1] at h2
 cases h2
 exact ⟨rfl,he.operand (di o (List.mem_map.2 ⟨(j,o),List.mem_of_getElem? h1,rfl⟩))⟩

theorem F6 (hT:T.Fits P) {C:Fn→List Value→Heap→Option (Value × Heap)} {gs:List Nat} (hC:CS P gs C) (hG:cL gs ρ) {e:Env} {a:Act} {o:Oper} (hs:bK ρ h w) (he:cd ρ e a.tmps) (di:jV ρ o) (bQ:eY ρ h h') {v:Value}
 (ak:gM P T C e o h=some (v,h')):Fg P ρ h h' w v ((execOp a.eval o).run P w):=by
 have az:∀ x∈o.op.operands.toList,qC ρ x:=di
 unfold gM at ak
 dsimp only at ak
 split at ak
 ·rename_i x aL
  cases ak
  refine .still (u:=a.eval x) hs (by simp [execOp,aL]) (he.operand (az _ (by simp [aL,Op.operands])))
 ·rename_i x aL
  cases ak
  refine .still (u:=a.eval x) hs (by simp [execOp,aL]) (he.operand (az _ (by simp [aL,Op.operands])))
 ·rename_i c x y aL
  have hc:=he.operand (az c (by simp [aL,Op.operands]))
  have hx:=he.operand (az x (by simp [aL,Op.operands]))
  have hy:=he.operand (az y (by simp [aL,Op.operands]))
  split at ak
  ·rename_i t ht
   cases ak
   rw [ht] at hc
   have tW:a.eval c=.bool t:=hc.bG rfl
   refine .still (u:=if t then a.eval x else a.eval y) hs (by simp [execOp,aL,tW,asBool]) ?_
   cases t
   ·exact hy
   ·exact hx
  ·cases ak
 ·rename_i t aL
  simp only [Option.map_eq_some_iff,Prod.exists] at ak
  obtain ⟨k,sy,z,fS,ak⟩:=ak
  obtain ⟨i,zv,hi,rfl,rfl,hz,rfl,uP,qU⟩:=hT.info t k sy z fS
  have e1:v=(newRow t zv.cells.toList h).1:=(congrArg Prod.fst ak).symm
  have e2:h'=(newRow t zv.cells.toList h).2:=(congrArg Prod.snd ak).symm
  subst e1 e2
  obtain ⟨ρ',h1,h2,h3,h4⟩:=zkI (P:=P) (v:=undef) hs (bQ _ (Nat.le_refl _) (Nat.lt_succ_self _)) (t:=t) zv (cu.plain ρ qU)
  refine .inl ⟨ρ',_,_,.inl ?_,h2,h3,h4⟩
  simp [execOp,aL,Instr.alloc,zeroValue,typeInfo,hi,hz,h1]
 ·rename_i t x aL
  have hx:=he.operand (az x (by simp [aL,Op.operands]))
  simp only [Option.some.injEq] at ak
  have e1:v=(newRow t (aZ e x).cells.toList h).1:=(congrArg Prod.fst ak).symm
  have e2:h'=(newRow t (aZ e x).cells.toList h).2:=(congrArg Prod.snd ak).symm
  subst e1 e2
  obtain ⟨ρ',h1,h2,h3,h4⟩:=zkI (P:=P) (v:=undef) hs (bQ _ (Nat.le_refl _) (Nat.lt_succ_self _)) (t:=t) (a.eval x) hx.cells
  refine .inl ⟨ρ',_,_,.inl ?_,h2,h3,h4⟩
  simp [execOp,aL,Instr.box,h1]
 ·rename_i t ps aL
  simp only [Option.map_eq_some_iff,Prod.mk.injEq] at ak
  obtain ⟨r,hr,rfl,rfl⟩:=ak
  obtain ⟨p1,p2⟩:=znA he ps.toList (fun x hx=>az x (by simpa [aL,Op.operands] using hx))
  obtain ⟨vc,h1,h2⟩:=zmg (ρ:=ρ) hT p1 p2 hr w
  refine .still hs ?_ h2
  simp only [execOp,aL,zeZ,Sem.run_bind,h1,Result.andThen_ok,Sem.run_pure]
 ·rename_i t n ps aL
  obtain ⟨p1,p2⟩:=znA he ps.toList (fun x hx=>az x (by simpa [aL,Op.operands] using hx))
  obtain ⟨ρ',vc,w',h1,h2,h3,h4⟩:=zg0 (ρ:=ρ) hT hs bQ p1 p2 ak
  refine .inl ⟨ρ',vc,w',.inl ?_,h2,h3,h4⟩
  simp only [execOp,aL,zeZ,Sem.run_bind,h1,Result.andThen_ok,Sem.run_pure]
 ·rename_i t x aL
  have hx:=he.operand (az x (by simp [aL,Op.operands]))
  simp only [Option.map_eq_some_iff,Prod.mk.injEq] at ak
  obtain ⟨r,hr,rfl,rfl⟩:=ak
  obtain ⟨u,h1,h2⟩:=YS hT hs hx hr
  exact .still hs (by simp [execOp,aL,h1]) h2
 ·rename_i t x y aL
  have hx:=he.operand (az x (by simp [aL,Op.operands]))
  have hy:=he.operand (az y (by simp [aL,Op.operands]))
  simp only [Option.map_eq_some_iff,Prod.mk.injEq] at ak
  obtain ⟨h1,hr,rfl,rfl⟩:=ak
  unfold gA at hr
  split at hr
  ·rename_i A off xE
   rw [xE] at hx
   simp only [Option.bind_eq_some_iff] at hr
   obtain ⟨n,hn,hr⟩:=hr
   split at hr
   ·rename_i dB
    generalize tU:a.eval x=ax at hx
    cases hx with
    |ptr hA =>
     rename_i L
     obtain ⟨w',eb,cN,dp⟩:=LZ (P:=P) hs hA hy.cells hr
     have kC:(a.eval y).cells.size=n:=by have:=hy.cells.1;simp at this;omega
     refine .inl ⟨ρ,undef,w',.inr ⟨?_,rfl⟩,cN,dp,.undef ρ⟩
     simp [execOp,aL,tU,Instr.storeAt,Instr.sureAddr,storeVar,se hT hn,kC,eb]
   ·cases hr
  ·cases hr
 ·rename_i x aL
  have hx:=he.operand (az x (by simp [aL,Op.operands]))
  split at ak
  ·rename_i ad xE
   cases ak
   rw [xE] at hx
   generalize tU:a.eval x=ax at hx
   cases hx with
   |ptr hA=>exact .still hs (by simp [execOp,aL,tU]) (.ptr hA)
  ·rename_i f fi ca xE
   cases ak
   rw [xE] at hx
   generalize tU:a.eval x=ax at hx
   cases hx with
   |func _ hf hc h1 h2=>exact .still hs (by simp [execOp,aL,tU]) (.func _ hf hc h1 h2)
  ·rename_i t z xE
   cases ak
   rw [xE] at hx
   generalize tU:a.eval x=ax at hx
   cases hx with
   |iface _ h1=>exact .still hs (by simp [execOp,aL,tU]) (.iface t h1)
  ·cases ak
 ·rename_i op t x y yt aL
  have hx:=he.operand (az x (by simp [aL,Op.operands]))
  have hy:=he.operand (az y (by simp [aL,Op.operands]))
  simp only [Option.map_eq_some_iff,Prod.mk.injEq] at ak
  obtain ⟨r,hr,rfl,rfl⟩:=ak
  obtain ⟨vc,h1,h2⟩:=zqQ hT hx hy hr x y w
  refine .still hs ?_ h2
  simp only [execOp,aL]
  rw [Sem.run_bind,h1]
  rfl
 ·rename_i fn first captured aL
  split at ak
  ·rename_i f
   cases ak
   have h1:=he.operands first.toList (fun x hx=>az x (by simp [aL,Op.operands];left;simpa using hx))
   have h2:=he.operands captured.toList (fun x hx=>az x (by simp [aL,Op.operands];right;simpa using hx))
   refine .still (u:=.func (.func f) (first.map a.eval) (captured.map a.eval)) hs ?_ ?_
   ·simp [execOp,aL,Instr.makeFunc]
   ·refine .func _ (by simp) (by simp) (fun i x y hx hy=>h1.2 i x y ?_ ?_) (fun i x y hx hy=>h2.2 i x y ?_ ?_)
    all_goals simp at hx hy ⊢;assumption
  ·cases ak
 ·rename_i t l c aL
  have hl:=he.operand (az l (by simp [aL,Op.operands]))
  have hc:=he.operand (az c (by simp [aL,Op.operands]))
  obtain ⟨ρ',vc,w',h1,h2,h3,h4⟩:=zhY hT hs bQ hl hc ak
  refine .inl ⟨ρ',vc,w',.inl ?_,h2,h3,h4⟩
  simp [execOp,aL,h1]
 ·rename_i t x l hi m aL
  have hx:=he.operand (az x (by simp [aL,Op.operands]))
  have hl:=he.opt (x:=l) (fun y hy=>az y (by subst hy;simp [aL,Op.operands]))
  have kT:=he.opt (x:=hi) (fun y hy=>az y (by subst hy;simp [aL,Op.operands]))
  have hm:=he.opt (x:=m) (fun y hy=>az y (by subst hy;simp [aL,Op.operands]))
  simp only [Option.map_eq_some_iff,Prod.mk.injEq] at ak
  obtain ⟨r,hr,rfl,rfl⟩:=ak
  obtain ⟨vc,h1,h2⟩:=znO hT hx hl kT hm hr w
  exact .still hs (by simp [execOp,aL,h1]) h2
 ·rename_i s x f aL
  have hx:=he.operand (az x (by simp [aL,Op.operands]))
  simp only [Option.map_eq_some_iff,Prod.mk.injEq] at ak
  obtain ⟨r,hr,rfl,rfl⟩:=ak
  obtain ⟨vc,h1,h2⟩:=zhW hT hx hr w
  exact .still hs (by simp [execOp,aL,h1]) h2
 ·rename_i t x f aL
  have hx:=he.operand (az x (by simp [aL,Op.operands]))
  simp only [Option.map_eq_some_iff,Prod.mk.injEq] at ak
  obtain ⟨r,hr,rfl,rfl⟩:=ak
  obtain ⟨vc,h1,h2⟩:=zmR hT hx hr w
  exact .still hs (by simp [execOp,aL,h1]) h2
 ·rename_i t x i aL
  have hx:=he.operand (az x (by simp [aL,Op.operands]))
  have hi:=he.operand (az i (by simp [aL,Op.operands]))
  simp only [Option.map_eq_some_iff,Prod.mk.injEq] at ak
  obtain ⟨r,hr,rfl,rfl⟩:=ak
  obtain ⟨vc,h1,h2⟩:=zhX hT hx hi hr w
  exact .still hs (by simp [execOp,aL,h1]) h2
 ·rename_i t i aL
  have ht:=he.operand (az t (by simp [aL,Op.operands]))
  split at ak
  ·rename_i vs hte
   rw [hte] at ht
   simp only [Option.map_eq_some_iff,Prod.mk.injEq] at ak
   obtain ⟨r,hr,rfl,rfl⟩:=ak
   generalize nt:a.eval t=at_ at ht
   cases ht with
   |tuple hc hh =>
    rename_i ds
    have aS:i < vs.size:=(Array.getElem?_eq_some_iff.1 hr).1
    have hd:ds[i]? = some (ds[i]'(by omega)):=Array.getElem?_eq_getElem _
    exact .still hs (by simp [execOp,aL,nt,Instr.extract,hd]) (hh i _ _ hr hd)
  ·cases ak
 ·rename_i op t x aL
  refine LY hs he di ak (fun heq=>?_)
  have:=heq x (by simp [aL,Op.operands])
  simp [execOp,aL,this]
 ·rename_i s t x aL
  split at ak
  ·have hx:=he.operand (az x (by simp [aL,Op.operands]))
   simp only [Option.map_eq_some_iff,Prod.mk.injEq] at ak
   obtain ⟨r,hr,rfl,rfl⟩:=ak
   obtain ⟨u,h1,h2⟩:=zjR hT hs hx hr
   exact .still hs (by simp [execOp,aL,h1]) h2
  ·split at ak
   ·split at ak
    ·rename_i WL
     have hx:=he.operand (az x (by simp [aL,Op.operands]))
     obtain ⟨ρ',u,w',r1,r2,r3,r4⟩:=zkb hT hs bQ WL hx ak
     exact .inl ⟨ρ',u,w',.inl (by simp [execOp,aL,r1]),r2,r3,r4⟩
    ·cases ak
   ·refine LY hs he di ak (fun heq=>?_)
    have:=heq x (by simp [aL,Op.operands])
    simp [execOp,aL,this]
 ·rename_i t x i aL
  refine LY hs he di ak (fun heq=>?_)
  have h1:=heq x (by simp [aL,Op.operands])
  have h2:=heq i (by simp [aL,Op.operands])
  simp [execOp,aL,h1,h2]
 ·rename_i c aL
  obtain ⟨callee,args,argTypes⟩:=c
  have dZ:∀ x∈args.toList,qC ρ x:=fun x hx=>az x (by simp [aL,Op.operands,Call.operands];right;simpa using hx)
  dsimp only at ak
  split at ak
  ·split at ak
   ·rename_i t u s x rV mL
    have e1:argTypes=#[t,u]:=by apply Array.ext';simpa using rV
    have e2:args=#[s,x]:=by apply Array.ext';simpa using mL
    subst e1 e2
    have h1:=he.operand (dZ s (by simp))
    have h2:=he.operand (dZ x (by simp))
    split at ak
    ·rename_i hu
     have J4:M5 P u:=by
      unfold rm at hu
      simp only [Bool.or_eq_true,beq_iff_eq] at hu
      rcases hu with rfl|hu
      ·have h4:=ak
       unfold il at h4
       split at h4
       ·rename_i e' hd;exact .inl ⟨_,hT.desc _ _ hd⟩
       ·cases h4
      ·split at hu
       ·rename_i hd;exact .inr (hT.desc _ _ hd)
       ·rename_i e' hd;exact .inl ⟨_,hT.desc _ _ hd⟩
       ·cases hu
     obtain ⟨ρ',vc,w',r1,r2,r3,r4⟩:=zgn (ty:=o.type) hT hs bQ J4 h1 h2 ak
     refine .inl ⟨ρ',vc,w',.inl ?_,r2,r3,r4⟩
     simp [execOp,aL,resolve,invoke,builtin,r1]
    ·cases ak
   ·cases ak
  ·split at ak
   ·rename_i t u d s rV mL
    have e1:argTypes=#[t,u]:=by apply Array.ext';simpa using rV
    have e2:args=#[d,s]:=by apply Array.ext';simpa using mL
    subst e1 e2
    have h1:=he.operand (dZ d (by simp))
    have h2:=he.operand (dZ s (by simp))
    obtain ⟨vc,w',r1,r2,r3,r4⟩:=zow (u:=u) (ty:=o.type) hT hs h1 h2 ak
    refine .inl ⟨ρ,vc,w',.inl ?_,r2,r3,r4⟩
    simp [execOp,aL,resolve,invoke,builtin,r1]
   ·cases ak
  ·split at ak
   ·rename_i t x rV mL
    have e1:argTypes=#[t]:=by apply Array.ext';simpa using rV
    have e2:args=#[x]:=by apply Array.ext';simpa using mL
    subst e1 e2
    have h1:=he.operand (dZ x (by simp))
    simp only [Option.map_eq_some_iff,Prod.mk.injEq] at ak
    obtain ⟨h2,hr,rfl,rfl⟩:=ak
    obtain ⟨w',r1,r2,r3⟩:=zmq (ty:=o.type) hT hs h1 hr
    refine .inl ⟨ρ,undef,w',.inl ?_,r2,r3,.undef ρ⟩
    simp [execOp,aL,resolve,invoke,builtin,r1]
   ·cases ak
  ·split at ak
   ·rename_i t ts x rV mL
    have e2:args=#[x]:=by apply Array.ext';simpa using mL
    have e1:argTypes=(t::ts).toArray:=by apply Array.ext';simpa using rV
    subst e1 e2
    have h1:=he.operand (dZ x (by simp))
    simp only [Option.map_eq_some_iff,Prod.mk.injEq] at ak
    obtain ⟨r,hr,rfl,rfl⟩:=ak
    obtain ⟨vc,r1,r2⟩:=zrm (ty:=o.type) hT hs h1 hr ts
    refine .still hs ?_ r2
    simp [execOp,aL,resolve,invoke,builtin,r1]
   ·cases ak
  ·refine LY hs he di ak (fun heq=>?_)
   have hm:args.map a.eval=args.map (aZ e):=by
    apply Array.map_congr_left
    intro x hx
    exact heq x (by simp [aL,Op.operands,Call.operands];exact hx)
   simp [execOp,aL,resolve,hm]
  ·refine LY hs he di ak (fun heq=>?_)
   have hm:args.map a.eval=args.map (aZ e):=by
    apply Array.map_congr_left
    intro x hx
    exact heq x (by simp [aL,Op.operands,Call.operands];exact hx)
   simp [execOp,aL,resolve,hm]
  ·split at ak
   ·rename_i t ts m k rV mL
    have e2:args=#[m,k]:=by apply Array.ext';simpa using mL
    have e1:argTypes=(t::ts).toArray:=by apply Array.ext';simpa using rV
    subst e1 e2
    have h1:=he.operand (dZ m (by simp))
    have h2:=he.operand (dZ k (by simp))
    simp only [Option.map_eq_some_iff,Prod.mk.injEq] at ak
    obtain ⟨h3,hr,rfl,rfl⟩:=ak
    obtain ⟨w',r1,r2,r3⟩:=zlj (ty:=o.type) (ts:=ts) hT hs h1 h2 hr
    refine .inl ⟨ρ,undef,w',.inl ?_,r2,r3,.undef ρ⟩
    simp [execOp,aL,resolve,invoke,builtin,r1,undef]
   ·cases ak
  ·split at ak
   ·rename_i t ts x rV mL
    have e2:args=#[x]:=by apply Array.ext';simpa using mL
    have e1:argTypes=(t::ts).toArray:=by apply Array.ext';simpa using rV
    subst e1 e2
    have h1:=he.operand (dZ x (by simp))
    simp only [Option.map_eq_some_iff,Prod.mk.injEq] at ak
    obtain ⟨r,hr,rfl,rfl⟩:=ak
    obtain ⟨vc,r1,r2⟩:=zqV (ty:=o.type) hT h1 hr ts w
    refine .still hs ?_ r2
    simp [execOp,aL,resolve,invoke,builtin,r1]
   ·cases ak
  ·rename_i rv name
   have WD:=he.operand (az rv (by simp [aL,Op.operands,Call.operands]))
   split at ak
   ·rename_i t x hre
    rw [hre] at WD
    generalize As:a.eval rv=ar at WD
    simp only [Option.bind_eq_some_iff,Prod.exists] at ak
    obtain ⟨f,y,hm,ak⟩:=ak
    cases WD with
    |iface _ hx =>
     rename_i x'
     obtain ⟨y',r1,r2⟩:=zlF hT hs hx hm (P.types.size+Made.depth - 1)
     have hd:P.types.size+Made.depth - 1+1=P.types.size+Made.depth:=by simp [Made.depth]
     rw [hd] at r1
     have bC:=he.operands args.toList dZ
     have uc:(execOp a.eval o).run P w=(callFunc f (#[y']++args.map a.eval)).run P w:=by
      have h0:(#[Value.iface t x']++Array.map a.eval args)[0]? = some (.iface t x'):=by rw [Array.getElem?_append_left (by simp)];rfl
      have JU:(program:Sem Program).run P w=.ok P w:=rfl
      have hex:(#[Value.iface t x']++Array.map a.eval args).extract 1 (#[Value.iface t x']++Array.map a.eval args).size=Array.map a.eval args:=by
       rw [Array.extract_append]
       simp
      simp only [execOp,aL,resolve,Sem.run_bind,Sem.run_pure,Result.andThen_ok,invoke,As,h0,callMethod,JU,r1,hex]
     have mG:=hC.fn f _ h v h' ak ρ w (#[y']++args.map a.eval) hG hs bQ (by
      have:=cu.cons r2 bC
      simpa using this)
     rw [uc]
     rcases mG with ⟨ρ',u,w',q1,q2,q3,q4⟩|⟨q1,q2⟩
     ·exact .inl ⟨ρ',u,w',.inl q1,q2,q3,q4⟩
     ·exact .inr (.inl ⟨f,_,q1,q2⟩)
   ·cases ak
  ·rename_i f
   have hf:=he.operand (az f (by simp [aL,Op.operands,Call.operands]))
   split at ak
   ·rename_i g first captured Jq
    rw [Jq] at hf
    generalize Vu:a.eval f=af at hf
    cases hf with
    |func _ h1 h2 h3 h4 =>
     rename_i fQ c8
     have jO:cu ρ first.toList fQ.toList:=⟨by simpa using h1,fun i x y hx hy=>h3 i x y (by simpa using hx) (by simpa using hy)⟩
     have kH:cu ρ captured.toList c8.toList:=⟨by simpa using h2,fun i x y hx hy=>h4 i x y (by simpa using hx) (by simpa using hy)⟩
     have bC:=he.operands args.toList dZ
     have mG:=hC.fn g _ h v h' ak ρ w ((fQ++args.map a.eval)++c8) hG hs bQ (by
      have:=(jO.append bC).append kH
      simpa using this)
     have uc:(execOp a.eval o).run P w=(callFunc g ((fQ++args.map a.eval)++c8)).run P w:=by
      simp [execOp,aL,resolve,Vu,Deferred.ofValue,invoke]
     rw [uc]
     rcases mG with ⟨ρ',u,w',r1,r2,r3,r4⟩|⟨r1,r2⟩
     ·exact .inl ⟨ρ',u,w',.inl r1,r2,r3,r4⟩
     ·exact .inr (.inl ⟨g,_,r1,r2⟩)
   ·rename_i A first captured Jq
    rw [Jq] at hf
    generalize Vu:a.eval f=af at hf
    split at ak
    ·cases hf with
     |yield hA =>
      rename_i L _
      have bC:=he.operands args.toList dZ
      obtain ⟨g,tmps,assign,body,r1,r2⟩:=hC.yield A _ h v h' ak ρ w (args.map a.eval) L hA hG hs bQ (by simpa using bC)
      refine .inr (.inr ⟨L.b,g,tmps,assign,body,?_,r2⟩)
      rw [← r1]
      simp [execOp,aL,resolve,Vu,Deferred.ofValue,invoke]
    ·cases ak
   ·cases ak
  ·cases ak
 ·rename_i t r aL
  have jz:∃ ρ',Fr ρ ρ' h (h.push (.map [] 0)) w (w.alloc (.map #[] 0))∧bK ρ' (h.push (.map [] 0)) (w.alloc (.map #[] 0))∧VR ρ' (.map (some h.size)) (.map (some w.heap.size))∨¬ (ρ h.size=none):=by
   by_cases hn:ρ h.size=none
   ·obtain ⟨ρ',h1,h2,h3⟩:=OH (W:=w.alloc (.map #[] 0)) (L:=⟨w.heap.size,0,0⟩) (b:=.map [] 0) hs hn (fun k hk=>by rw [Am.World.bI,Array.getElem?_push,if_neg (by omega)]) (by rw [Am.World.bI];simp) rfl rfl rfl (Nat.le_refl _)
     (fun ρ' _=>⟨#[],by rw [Am.World.bI];simp,rfl,by intro i x y hx;simp at hx⟩)
    exact ⟨ρ',.inl ⟨h2,h3,.map h1⟩⟩
   ·exact ⟨ρ,.inr hn⟩
  split at ak
  ·cases ak
   obtain ⟨ρ',⟨h2,h3,h4⟩|hn⟩:=jz
   ·exact .inl ⟨ρ',_,_,.inl (by simp [execOp,aL,Instr.makeMap]),h2,h3,h4⟩
   ·exact (hn (bQ _ (Nat.le_refl _) (Nat.lt_succ_self _))).elim
  ·rename_i x
   have hx:=he.operand (az x (by simp [aL,Op.operands]))
   split at ak
   ·rename_i hd xE
    cases ak
    rw [xE] at hx
    generalize tU:a.eval x=ax at hx
    cases hx
    obtain ⟨ρ',⟨h2,h3,h4⟩|hn⟩:=jz
    ·refine .inl ⟨ρ',_,_,.inl ?_,h2,h3,h4⟩
     simp [execOp,aL,Instr.makeMap,tU,run_underlying (hT.desc _ _ hd),asInt,asIntOf]
    ·exact (hn (bQ _ (Nat.le_refl _) (Nat.lt_succ_self _))).elim
   ·cases ak
 ·rename_i t x k ok aL
  have hx:=he.operand (az x (by simp [aL,Op.operands]))
  have hk:=he.operand (az k (by simp [aL,Op.operands]))
  simp only [Option.map_eq_some_iff,Prod.mk.injEq] at ak
  obtain ⟨r,hr,rfl,rfl⟩:=ak
  obtain ⟨u,h1,h2⟩:=zlD hT hs hx hk hr
  exact .still hs (by simp [execOp,aL,h1]) h2
 ·rename_i t m k x aL
  have hm:=he.operand (az m (by simp [aL,Op.operands]))
  have hk:=he.operand (az k (by simp [aL,Op.operands]))
  have hx:=he.operand (az x (by simp [aL,Op.operands]))
  simp only [Option.map_eq_some_iff,Prod.mk.injEq] at ak
  obtain ⟨h1,hr,rfl,rfl⟩:=ak
  obtain ⟨w',r1,r2,r3⟩:=zgZ hT hs hm hk hx hr
  exact .inl ⟨ρ,undef,w',.inr ⟨by simp [execOp,aL,r1],rfl⟩,r2,r3,.undef ρ⟩
 ·rename_i t m k x aL
  have hm:=he.operand (az m (by simp [aL,Op.operands]))
  have hk:=he.operand (az k (by simp [aL,Op.operands]))
  have hx:=he.operand (az x (by simp [aL,Op.operands]))
  simp only [Option.map_eq_some_iff,Prod.mk.injEq] at ak
  obtain ⟨h1,hr,rfl,rfl⟩:=ak
  obtain ⟨w',r1,r2,r3⟩:=zgZ hT hs hm hk hx hr
  exact .inl ⟨ρ,undef,w',.inr ⟨by simp [execOp,aL,r1],rfl⟩,r2,r3,.undef ρ⟩
 ·rename_i t m k aL
  have hm:=he.operand (az m (by simp [aL,Op.operands]))
  have hk:=he.operand (az k (by simp [aL,Op.operands]))
  obtain ⟨u,w',r1,r2,r3,r4⟩:=zmD hT hs hm hk ak
  exact .inl ⟨ρ,u,w',.inl (by simp [execOp,aL,r1]),r2,r3,r4⟩
 ·rename_i t m k x aL
  have hm:=he.operand (az m (by simp [aL,Op.operands]))
  have hk:=he.operand (az k (by simp [aL,Op.operands]))
  have hx:=he.operand (az x (by simp [aL,Op.operands]))
  simp only [Option.map_eq_some_iff,Prod.mk.injEq] at ak
  obtain ⟨h1,hr,rfl,rfl⟩:=ak
  obtain ⟨w',r1,r2,r3⟩:=zg9 (P:=P) (t:=t) hs hm hk hx hr
  exact .inl ⟨ρ,undef,w',.inr ⟨by simp [execOp,aL,r1],rfl⟩,r2,r3,.undef ρ⟩
 ·rename_i t x aL
  have hx:=he.operand (az x (by simp [aL,Op.operands]))
  simp only [Option.map_eq_some_iff,Prod.mk.injEq] at ak
  obtain ⟨r,hr,rfl,rfl⟩:=ak
  obtain ⟨u,h1,h2⟩:=zmX hT hx hr w
  exact .still hs (by simp [execOp,aL,h1]) h2
 ·rename_i x xt t ok aL
  have hx:=he.operand (az x (by simp [aL,Op.operands]))
  simp only [Option.map_eq_some_iff,Prod.mk.injEq] at ak
  obtain ⟨r,hr,rfl,rfl⟩:=ak
  obtain ⟨u,h1,h2⟩:=zk1 (xt:=xt) hT hx hr w
  exact .still hs (by simp [execOp,aL,h1]) h2
 ·cases ak
end
end Go.Am
namespace Go.Am
open Go.RowKit

section
variable {P:Program} {T:bD} {ρ:ct} {h h':Heap} {w:World}

def WR (rl:Option Nat):Fence:={ Fence.wide with round:=rl }
theorem zki {rl:Option Nat} {n:Nat} {f:FuncId} {args:Array Value} {R:Ending→World→Prop} (hc:Calls P f args w R):CallsIn (WR rl) n P f args w R :=
 (callsIn_wide (n:=n)).2 hc

theorem Fg.wp {o:Oper} {a:Act} {v:Value} (hr:Fg P ρ h h' w v ((execOp a.eval o).run P w)) (iw:∀ c,o.op≠.defer c) {K:Act→World→Prop} {Q:Exit→Act→World→Prop} {rl:Option Nat}
 (hK:∀ ρ' u w',Fr ρ ρ' h h' w w'→bK ρ' h' w'→VR ρ' v u→K (a.put o.dst u) w'):o.wpIn (WR rl) 0 P a w K Q:=by
 unfold Oper.wpIn
 refine ⟨fun _ _=>trivial,?_⟩
 rw [Oper.semAt_eq _ _ _ iw]
 rcases hr with ⟨ρ',u,w',h1,h2,h3,h4⟩|⟨f,aF,h1,h2⟩|⟨l,f,tmps,assign,body,h1,h2⟩
 ·rcases h1 with h1|⟨h1,rfl⟩
  ·rw [h1];exact hK ρ' u w' h2 h3 h4
  ·rw [h1];exact hK ρ' undef w' h2 h3 h4
 ·rw [h1]
  refine ⟨(fun hh=>by cases hh),zki (h2.mono ?_)⟩
  rintro ed w' ⟨ρ',u,rfl,h3,h4,h5⟩
  exact hK ρ' u w' h3 h4 h5
 ·rw [h1]
  refine ⟨(fun hh=>by cases hh),RoundIn.mono h2 ?_⟩
  rintro ed w' ⟨ρ',u,rfl,h3,h4,h5⟩
  exact hK ρ' u w' h3 h4 h5

theorem F0 {C:Fn→List Value→Heap→Option (Value × Heap)} {e:Env} {o:Oper} {v:Value} (ak:gM P T C e o h=some (v,h')):∀ c,o.op≠.defer c:=by
 intro c hc
 simp [gM,hc] at ak

theorem zoa {ops:Array Oper} {o:Oper} {e:Env} {tmps:Array Value} (he:cd ρ e tmps):Region.wanted o (yielded ops tmps)=kP ops o e:=by
 unfold Region.wanted kP
 cases o.guard with
 |none=>rfl
 |some g =>
  obtain ⟨j,b⟩:=g
  simp only [yielded]
  cases (ops[j]?).bind (·.dst) with
  |none=>simp
  |some t =>
   simp only [Option.bind_some]
   have hv:=he.2 t
   cases ht:tmps[t]? with
   |none =>
    have hlen:tmps.size≤t:=by
     rcases Nat.lt_or_ge t tmps.size with aS|lr
     ·rw [Array.getElem?_eq_getElem aS] at ht;cases ht
     ·exact lr
    rw [Env.mC e t (by rw [he.1];exact hlen)]
    rfl
   |some u =>
    have hu:tmps.getD t undef=u:=by simp [ht]
    rw [hu] at hv
    generalize e.get t=x at hv
    cases hv <;> first|rfl|(cases b <;> rename_i c <;> cases c <;> rfl)

/-! ### The plain heap does not shrink -/
structure bl (h h':Heap):Prop where
 size:h.size≤h'.size
 low:h'.low≤h.low
 get:∀ A,A < h.size→A < h'.low→h'.get A=h.get A

theorem bl.refl (h:Heap):bl h h:=⟨Nat.le_refl _,Nat.le_refl _,fun _ _ _=>rfl⟩
theorem bl.trans {h h1 h2:Heap} (a:bl h h1) (b:bl h1 h2):bl h h2 :=
 ⟨Nat.le_trans a.size b.size,Nat.le_trans b.low a.low,fun A h3 h4=>(b.get A (Nat.lt_of_lt_of_le h3 a.size) h4).trans (a.get A h3 (Nat.lt_of_lt_of_le h4 b.low))⟩
theorem bl.push (h:Heap) (b:bh):bl h (h.push b):=⟨Nat.le_succ _,Nat.le_refl _,fun A h3 _=>by rw [Heap.bL,if_neg (by omega)]⟩
theorem bl.set {h:Heap} {A:Nat} (b:bh) (hA:A < h.size):bl h (h.set A b) :=
 ⟨Nat.le_refl _,Nat.min_le_left _ _,fun A' _ h4=>by rw [Heap.bX] at h4;rw [Heap.aC _ _ _ _ hA,if_neg (by omega)]⟩

theorem OJ {A o:Nat} {vs:List Value} (hw:kW A o vs h=some h'):bl h h':=by
 unfold kW at hw
 split at hw
 ·rename_i hg
  split at hw
  ·cases hw;exact .set _ (Heap.bz hg)
  ·cases hw
 ·cases hw

theorem zgm {t:TypeId} {s x v:Value} (ha:il T t s x h=some (v,h')):bl h h':=by
 unfold il at ha
 split at ha
 ·simp only [Option.bind_eq_some_iff,Prod.exists] at ha
  obtain ⟨k,sy,z,_,m,news,_,ha⟩:=ha
  split at ha
  ·split at ha
   ·cases ha;exact .refl _
   ·split at ha
    ·cases ha
    ·split at ha
     ·split at ha
      ·split at ha
       ·simp only [Option.map_eq_some_iff,Prod.mk.injEq] at ha
        obtain ⟨h1,hw,_,rfl⟩:=ha
        exact OJ hw
       ·cases ha
      ·cases ha
     ·simp only [Option.bind_eq_some_iff] at ha
      obtain ⟨en,_,ha⟩:=ha
      split at ha
      ·cases ha;exact .push _ _
      ·split at ha
       ·split at ha
        ·rename_i hg
         split at ha
         ·cases ha;exact (bl.set _ (Heap.bz hg)).trans (.push _ _)
         ·cases ha
        ·cases ha
       ·cases ha
  ·cases ha
 ·cases ha

theorem zgY {t:TypeId} {x k v:Value} (hr:mS T t x k v h=some h'):bl h h':=by
 unfold mS at hr
 split at hr
 ·split at hr
  ·rename_i hg
   split at hr
   ·simp only [Option.bind_eq_some_iff] at hr
    obtain ⟨r,_,hr⟩:=hr
    split at hr
    ·simp only [Option.bind_eq_some_iff] at hr
     obtain ⟨e,_,hr⟩:=hr
     split at hr
     ·cases hr;exact .set _ (Heap.bz hg)
     ·cases hr
    ·cases hr;exact .set _ (Heap.bz hg)
   ·cases hr
  ·cases hr
 ·cases hr

theorem zka {d:TypeId} {x v:Value} (hr:Bp T d x h=some (v,h')):bl h h':=by
 unfold Bp at hr
 split at hr
 ·split at hr
  ·split at hr
   ·cases hr
   ·cases hr;exact .push _ _
  ·cases hr
 ·cases hr
theorem zmC {t:TypeId} {x k v:Value} (hr:wo T t x k h=some (v,h')):bl h h':=by
 unfold wo at hr
 split at hr
 ·split at hr
  ·rename_i hg
   split at hr
   ·simp only [Option.bind_eq_some_iff] at hr
    obtain ⟨r,_,hr⟩:=hr
    split at hr
    ·simp only [Option.bind_eq_some_iff] at hr
     obtain ⟨e,_,hr⟩:=hr
     split at hr
     ·cases hr;exact .set _ (Heap.bz hg)
     ·cases hr
    ·simp only [Option.map_eq_some_iff,Prod.mk.injEq] at hr
     obtain ⟨z,_,_,rfl⟩:=hr
     exact .set _ (Heap.bz hg)
   ·cases hr
  ·cases hr
 ·cases hr
theorem zg8 {x s v:Value} (hr:sd x s v h=some h'):bl h h':=by
 unfold sd at hr
 split at hr
 ·split at hr
  ·rename_i hg
   simp only [Option.map_eq_some_iff] at hr
   obtain ⟨i,_,rfl⟩:=hr
   exact .set _ (Heap.bz hg)
  ·cases hr
 ·cases hr

theorem zli {t:TypeId} {x k:Value} (hr:sY T t x k h=some h'):bl h h':=by
 unfold sY at hr
 split at hr
 ·split at hr
  ·cases hr;exact .refl _
  ·cases hr
 ·split at hr
  ·rename_i hg
   split at hr
   ·simp only [Option.bind_eq_some_iff] at hr
    obtain ⟨r,_,hr⟩:=hr
    split at hr
    ·cases hr;exact .set _ (Heap.bz hg)
    ·cases hr;exact .set _ (Heap.bz hg)
   ·cases hr
  ·cases hr
 ·cases hr

def rp (C:Fn→List Value→Heap→Option (Value × Heap)):Prop:=∀ f args h v h',C f args h=some (v,h')→bl h h'

theorem Eg {C:Fn→List Value→Heap→Option (Value × Heap)} (hC:rp C) {e:Env} {o:Oper} {v:Value} (ak:gM P T C e o h=some (v,h')):bl h h':=by
 have cE:∀ {r:Option Value},(r.map fun x=>(x,h))=some (v,h')→bl h h':=by
  intro r hr
  simp only [Option.map_eq_some_iff,Prod.mk.injEq] at hr
  obtain ⟨_,_,_,rfl⟩:=hr
  exact .refl _
 have dA:gi P e o h=some (v,h')→bl h h':=by
  intro hp
  unfold gi at hp
  split at hp
  ·split at hp
   ·split at hp
    ·cases hp;exact .refl _
    ·cases hp
   ·cases hp
  ·cases hp
 unfold gM at ak
 dsimp only at ak
 split at ak
 ·cases ak;exact .refl _
 ·cases ak;exact .refl _
 ·split at ak
  ·cases ak;exact .refl _
  ·cases ak
 ·simp only [Option.map_eq_some_iff,Prod.exists] at ak
  obtain ⟨_,_,z,_,ak⟩:=ak
  have e2:=congrArg Prod.snd ak
  simp only at e2
  subst e2
  exact .push _ _
 ·simp only [Option.some.injEq] at ak
  have e2:=congrArg Prod.snd ak
  simp only at e2
  subst e2
  exact .push _ _
 ·exact cE ak
 ·unfold lQ at ak
  split at ak
  ·simp only [Option.bind_eq_some_iff,Prod.exists] at ak
   obtain ⟨_,_,_,_,ak⟩:=ak
   split at ak
   ·cases ak
   ·simp only [Option.map_eq_some_iff,Prod.mk.injEq] at ak
    obtain ⟨_,_,_,rfl⟩:=ak
    exact .push _ _
  ·cases ak
 ·exact cE ak
 ·simp only [Option.map_eq_some_iff,Prod.mk.injEq] at ak
  obtain ⟨h1,hr,_,rfl⟩:=ak
  unfold gA at hr
  split at hr
  ·simp only [Option.bind_eq_some_iff] at hr
   obtain ⟨_,_,hr⟩:=hr
   split at hr
   ·exact OJ hr
   ·cases hr
  ·cases hr
 ·split at ak
  ·cases ak;exact .refl _
  ·cases ak;exact .refl _
  ·cases ak;exact .refl _
  ·cases ak
 ·exact cE ak
 ·split at ak
  ·cases ak;exact .refl _
  ·cases ak
 ·unfold Ek at ak
  split at ak
  ·simp only [Option.bind_eq_some_iff,Prod.exists] at ak
   obtain ⟨_,_,_,_,ak⟩:=ak
   split at ak
   ·cases ak;exact .push _ _
   ·cases ak
  ·cases ak
 ·exact cE ak
 ·exact cE ak
 ·exact cE ak
 ·exact cE ak
 ·split at ak
  ·exact cE ak
  ·cases ak
 ·exact dA ak
 ·split at ak
  ·exact cE ak
  ·split at ak
   ·split at ak
    ·exact zka ak
    ·cases ak
   ·exact dA ak
 ·exact dA ak
 ·split at ak
  ·split at ak
   ·split at ak
    ·exact zgm ak
    ·cases ak
   ·cases ak
  ·split at ak
   ·unfold Fa at ak
    split at ak
    ·simp only [Option.bind_eq_some_iff,Prod.exists] at ak
     obtain ⟨_,_,_,_,_,ak⟩:=ak
     split at ak
     ·cases ak;exact .refl _
     ·split at ak
      ·simp only [Option.map_eq_some_iff,Prod.mk.injEq] at ak
       obtain ⟨h1,hw,_,rfl⟩:=ak
       exact OJ hw
      ·cases ak
    ·cases ak
   ·cases ak
  ·split at ak
   ·simp only [Option.map_eq_some_iff,Prod.mk.injEq] at ak
    obtain ⟨h1,hr,_,rfl⟩:=ak
    unfold nP at hr
    split at hr
    ·split at hr
     ·cases hr;exact .refl _
     ·simp only [Option.bind_eq_some_iff,Prod.exists] at hr
      obtain ⟨_,_,_,_,hr⟩:=hr
      split at hr
      ·exact OJ hr
      ·cases hr
    ·cases hr
   ·cases ak
  ·split at ak
   ·exact cE ak
   ·cases ak
  ·exact dA ak
  ·exact dA ak
  ·split at ak
   ·simp only [Option.map_eq_some_iff,Prod.mk.injEq] at ak
    obtain ⟨h1,hr,_,rfl⟩:=ak
    exact zli hr
   ·cases ak
  ·split at ak
   ·exact cE ak
   ·cases ak
  ·split at ak
   ·simp only [Option.bind_eq_some_iff,Prod.exists] at ak
    obtain ⟨_,_,_,ak⟩:=ak
    exact hC _ _ _ _ _ ak
   ·cases ak
  ·split at ak
   ·exact hC _ _ _ _ _ ak
   ·split at ak
    ·exact hC _ _ _ _ _ ak
    ·cases ak
   ·cases ak
  ·cases ak
 ·split at ak
  ·cases ak;exact .push _ _
  ·split at ak
   ·cases ak;exact .push _ _
   ·cases ak
 ·exact cE ak
 ·simp only [Option.map_eq_some_iff,Prod.mk.injEq] at ak
  obtain ⟨h1,hr,_,rfl⟩:=ak
  exact zgY hr
 ·simp only [Option.map_eq_some_iff,Prod.mk.injEq] at ak
  obtain ⟨h1,hr,_,rfl⟩:=ak
  exact zgY hr
 ·exact zmC ak
 ·simp only [Option.map_eq_some_iff,Prod.mk.injEq] at ak
  obtain ⟨h1,hr,_,rfl⟩:=ak
  exact zg8 hr
 ·exact cE ak
 ·exact cE ak
 ·cases ak

theorem OA {C:Fn→List Value→Heap→Option (Value × Heap)} (hC:rp C) {ops:Array Oper}:∀ (l:List Oper) (e e':Env) (h h':Heap),qu P T C ops l e h=some (e',h')→bl h h'
 | [],e,e',h,h',ak=>by simp only [qu,Option.some.injEq,Prod.mk.injEq] at ak;obtain ⟨_,rfl⟩:=ak;exact .refl _
 |o::l,e,e',h,h',ak=>by
  simp only [qu] at ak
  split at ak
  ·split at ak
   ·rename_i v h1 h2
    exact (Eg hC h2).trans (OA hC l _ _ _ _ ak)
   ·cases ak
  ·exact OA hC l _ _ _ _ ak

theorem Yx (hT:T.Fits P) {C:Fn→List Value→Heap→Option (Value × Heap)} {gs:List Nat} (hC:CS P gs C) (hg:rp C) {ops:Array Oper} {Q:Exit→Act→World→Prop} {rl:Option Nat} {dd:List Deferred} :
 ∀ (l:List Oper) (e e':Env) (h h':Heap) (ρ:ct) (a:Act) (w:World),qu P T C ops l e h=some (e',h')→(∀ o∈l,jV ρ o)→cL gs ρ→bK ρ h w→eY ρ h h'→cd ρ e a.tmps→a.defers=dd →
   (∀ ρ' a' w',Fr ρ ρ' h h' w w'→bK ρ' h' w'→cd ρ' e' a'.tmps→a'.defers=dd→Q .normal a' w')→wpListIn (WR rl) 0 P ops Q l a w
 | [],e,e',h,h',ρ,a,w,ak,_,_,hs,_,he,hd,hQ=>by
  simp only [qu,Option.some.injEq,Prod.mk.injEq] at ak
  obtain ⟨rfl,rfl⟩:=ak
  exact hQ ρ a w (Fr.refl _ _ _) hs he hd
 |o::l,e,e',h,h',ρ,a,w,ak,di,hG,hs,hf,he,hd,hQ=>by
  have Wu:=di o (by simp)
  have JP:∀ q∈l,jV ρ q:=fun q hq=>di q (by simp [hq])
  simp only [qu] at ak
  unfold wpListIn
  rw [zoa he]
  split at ak
  ·rename_i hw
   rw [if_pos hw]
   split at ak
   ·rename_i v h1 h2
    have dB:=(OA hg l _ _ _ _ ak).size
    refine (F6 hT hC hG hs he Wu (hf.left dB) h2).wp (F0 h2) fun ρ1 u w1 f1 s1 v1=>?_
    refine Yx hT hC hg l _ _ _ _ ρ1 _ w1 ak (fun q hq=>(JP q hq).mono f1.grow) (hG.mono f1.grow) s1 (hf.right f1) ((he.mono f1.grow).put v1 o.dst) (by cases o.dst <;> exact hd) ?_
    intro ρ2 a2 w2 f2 s2 e2 d2
    exact hQ ρ2 a2 w2 (f1.trans f2) s2 e2 d2
   ·cases ak
  ·rename_i hw
   rw [if_neg hw]
   refine ⟨fun _ _=>trivial,?_⟩
   exact Yx hT hC hg l _ _ _ _ ρ _ w ak JP hG hs hf (he.put (.undef ρ) o.dst) (by cases o.dst <;> exact hd) hQ

def Ex.to:Ex→Exit
 | .normal=>.normal
 | .exit id=>.exit id
 | .ret=>.ret

def DS (P:Program) (gs:List Nat) (D:Array Oper→Env→Heap→Option (Env × Heap)):Prop :=
 ∀ (rl:Option Nat) (id:Nat) (ops:Array Oper) (e e':Env) (h h':Heap) (ρ:ct) (a:Act) (w:World) (Q:Exit→Act→World→Prop),D ops e h=some (e',h')→(∀ o∈ops.toList,jV ρ o)→cL gs ρ→bK ρ h w→eY ρ h h'→cd ρ e a.tmps →
   (∀ ρ' a' w',Fr ρ ρ' h h' w w'→bK ρ' h' w'→cd ρ' e' a'.tmps→a'.defers=a.defers→Q .normal a' w')→(Code.region id ops true).wpIn (WR rl) 0 P Q a w
def zsD (D:Array Oper→Env→Heap→Option (Env × Heap)):Prop:=∀ ops e h e' h',D ops e h=some (e',h')→bl h h'

theorem Y0 {f:Env→Heap→Option (Ex × Env × Heap)} (hf:∀ e h x e' h',f e h=some (x,e',h')→bl h h'):∀ (n:Nat) (e:Env) (h:Heap) (x:Ex) (e':Env) (h':Heap),iter f n e h=some (x,e',h')→bl h h'
 |0,_,_,_,_,_,hi=>by simp [iter] at hi
 |n+1,e,h,x,e',h',hi=>by
  simp only [iter] at hi
  split at hi
  ·rename_i e1 h1 h2
   exact (hf _ _ _ _ _ h2).trans (Y0 hf n _ _ _ _ _ hi)
  ·exact hf _ _ _ _ _ hi

theorem ze3 {l:Nat} {e e':Env} {x:Ex} (ak:Bj l e h=some (x,e',h')):bl h h':=by
 unfold Bj at ak
 split at ak
 ·rename_i hg
  split at ak
  ·cases ak
  ·split at ak
   ·cases ak;exact .set _ (Heap.bz hg)
   ·cases ak;exact .set _ (Heap.bz hg)
   ·cases ak;exact .set _ (Heap.bz hg)
   ·cases ak
 ·cases ak
theorem znD {C:Fn→List Value→Heap→Option (Value × Heap)} (hC:rp C) {rd:Option Nat} {g:Value} {ps:List Tmp} {assign body:Code} {e e':Env} {x:Ex} (ak:GA T C rd g ps assign body e h=some (x,e',h')):bl h h':=by
 unfold GA at ak
 split at ak
 ·split at ak
  ·split at ak
   ·rename_i hc
    exact ((bl.push _ _).trans (hC _ _ _ _ _ hc)).trans (ze3 ak)
   ·cases ak
  ·cases ak
 ·cases ak

theorem Ej {C:Fn→List Value→Heap→Option (Value × Heap)} {D:Array Oper→Env→Heap→Option (Env × Heap)} (hC:rp C) (hD:zsD D) (rd:Option Nat) (fuel:Nat):∀ (c:Code) (e:Env) (h:Heap) (x:Ex) (e':Env) (h':Heap),dx P T C D rd fuel c e h=some (x,e',h')→bl h h':=by
 intro c
 induction c with
 |skip=>intro e h x e' h' ak;simp only [dx,Option.some.injEq,Prod.mk.injEq] at ak;obtain ⟨_,_,rfl⟩:=ak;exact .refl _
 |region id ops d =>
  intro e h x e' h' ak
  simp only [dx,Option.map_eq_some_iff,Prod.exists,Prod.mk.injEq] at ak
  obtain ⟨e1,h1,hr,_,rfl,rfl⟩:=ak
  split at hr
  ·exact hD _ _ _ _ _ hr
  ·exact OA hC _ _ _ _ _ hr
 |seq a b gI gJ =>
  intro e h x e' h' ak
  simp only [dx] at ak
  split at ak
  ·rename_i e1 h1 h2
   exact (gI _ _ _ _ _ h2).trans (gJ _ _ _ _ _ ak)
  ·exact gI _ _ _ _ _ ak
 |cond c a b gI gJ =>
  intro e h x e' h' ak
  simp only [dx] at ak
  split at ak
  ·exact gI _ _ _ _ _ ak
  ·exact gJ _ _ _ _ _ ak
  ·cases ak
 |block id c ih =>
  intro e h x e' h' ak
  simp only [dx] at ak
  split at ak
  ·rename_i i e1 h1 h2
   have:=ih _ _ _ _ _ h2
   split at ak <;> (simp only [Option.some.injEq,Prod.mk.injEq] at ak;obtain ⟨_,_,rfl⟩:=ak;exact this)
  ·exact ih _ _ _ _ _ ak
 |loop c ih=>intro e h x e' h' ak;simp only [dx] at ak;exact Y0 ih _ _ _ _ _ _ ak
 |exit id=>intro e h x e' h' ak;simp only [dx,Option.some.injEq,Prod.mk.injEq] at ak;obtain ⟨_,_,rfl⟩:=ak;exact .refl _
 |ret=>intro e h x e' h' ak;simp only [dx,Option.some.injEq,Prod.mk.injEq] at ak;obtain ⟨_,_,rfl⟩:=ak;exact .refl _
 |label l=>intro e h x e' h' ak;simp only [dx,Option.some.injEq,Prod.mk.injEq] at ak;obtain ⟨_,_,rfl⟩:=ak;exact .refl _
 |rangeFunc f ps a b _ _=>intro e h x e' h' ak;exact znD hC ak
 |scope c ih=>intro e h x e' h' ak;exact ih _ _ _ _ _ ak
 |goto l=>intro e h x e' h' ak;simp [dx] at ak
 |refuse s=>intro e h x e' h' ak;simp [dx] at ak

def jL:Code→Bool
 | .seq a b=>jL a && jL b
 | .cond _ a b=>jL a && jL b
 | .block _ c=>jL c
 | .loop c=>jL c
 | .scope c=>jL c
 | .rangeFunc _ _ _ _=>false
 |_=>true
def Marks (n0:Nat) (B:List Deferred) (nr:Bool) (ρ:ct) (w:World) (ds:List Deferred):Prop :=
 ∃ rs:List Nat,ds=rs.map (fun r=>{ target:=.collected r,args:=#[] })++B∧rs.Nodup∧(nr=true→rs=[])∧∀ r∈rs,n0≤r∧w.heap[r]? = some (.deferred (some []))∧∀ A L,ρ A=some L→L.b≠r
theorem Marks.nil {n0:Nat} {B:List Deferred} {nr:Bool}:Marks n0 B nr ρ w B:=⟨[],rfl,.nil,fun _=>rfl,by intro r hr;cases hr⟩
theorem Marks.step {n0:Nat} {B:List Deferred} {nr:Bool} {ρ':ct} {w':World} {ds:List Deferred} (hm:Marks n0 B nr ρ w ds) (f:Fr ρ ρ' h h' w w'):Marks n0 B nr ρ' w' ds:=by
 obtain ⟨rs,h1,h2,h0,h3⟩:=hm
 refine ⟨rs,h1,h2,h0,fun r hr=>?_⟩
 obtain ⟨a1,a2,a3⟩:=h3 r hr
 have aS:r < w.heap.size:=(Array.getElem?_eq_some_iff.1 a2).1
 refine ⟨a1,(f.keep r aS fun A L hA hb=>(a3 A L hA hb).elim).trans a2,fun A L hA hb=>?_⟩
 cases hρ:ρ A with
 |some L0 =>
  have e:L0=L:=by have:=f.grow A L0 hρ;rw [hA] at this;exact (Option.some.inj this).symm
  subst e
  exact a3 A L0 hρ hb
 |none =>
  rcases (f.fresh A L hA hρ).2.2 with h4|⟨A0,L0,h4,h5,_⟩
  ·omega
  ·exact a3 A0 L0 h4 (h5.trans hb)

def Fh (ρ:ct):Option Nat→Option Nat→Prop
 |none,none=>True
 |some A,some l=>∃ L,ρ A=some L∧L.b=l
 |_,_=>False
theorem Fh.mono {ρ':ct} (hg:∀ A L,ρ A=some L→ρ' A=some L):∀ {rd rl:Option Nat},Fh ρ rd rl→Fh ρ' rd rl
 |none,none,_=>trivial
 |some _,some _,⟨L,h1,h2⟩=>⟨L,hg _ _ h1,h2⟩
 |none,some _,hh=>hh.elim
 |some _,none,hh=>hh.elim

theorem F1 {b:Frame} {a:Act} {k:List Item} {cs:List Frame} {c:Code}:step P (lone (b.atR a (.code (.scope c)::k)) cs w)=.next (lone (b.atR a (.code c::.inScope c::k)) cs w) :=
 step_lone_go (by simp [stepG,stepG.exec,Frame.atR])
theorem zlY {b:Frame} {a:Act} {k:List Item} {cs:List Frame} {c:Code}:step P (lone (b.atR a (.inScope c::k)) cs w)=.next (lone (b.atR a k) cs w) :=
 step_lone_go (by simp [stepG,stepG.exec,Frame.atR])
theorem zgi {F:Fence} {n:Nat} {Q:Exit→Act→World→Prop} {a:Act} {c:Code} (hc:c.wpIn F n P (Exit.noGoto Q) a w):(Code.scope c).wpIn F n P Q a w:=by
 intro b k cs qR hb hr
 have h0:(lone (b.atR a (.code (.scope c)::k)) cs w).fenced P F:=fenced_calm hb hr rfl
 obtain ⟨e,a₁,w₁,hq,rF⟩:=hc b (.inScope c::k) cs qR hb hr
 cases e with
 |normal=>exact ⟨.normal,a₁,w₁,hq,.head h0 F1 (StepsIn.trans rF (.one (fenced_calm hb hr rfl) zlY))⟩
 |exit id =>
  have hx:exitTo id (.inScope c::k)=exitTo id k:=by simp [exitTo]
  exact ⟨.exit id,a₁,w₁,hq,fun k' hk=>.head h0 F1 (rF.1 k' (by rw [hx];exact hk)),
   fun bo hk=>let ⟨k₁,h1,h2⟩:=rF.2 bo (by rw [hx];exact hk);⟨k₁,h1,.head h0 F1 h2⟩⟩
 |goto l=>exact hq.elim
 |ret=>exact ⟨_,a₁,w₁,hq,.of_steps (.one h0 F1) rF⟩
 |panic ch=>exact ⟨_,a₁,w₁,hq,.of_steps (.one h0 F1) rF⟩
 |outgrown=>exact ⟨_,a₁,w₁,hq,.of_steps (.one h0 F1) rF⟩

theorem OI (w:World) (r:Nat) (o:Obj):(w.putObj r o).heap=w.heap.setIfInBounds r o:=rfl
theorem zuz {r:Nat} {o:Obj} (aS:r < w.heap.size):(w.putObj r o).heap[r]? = some o:=by rw [OI];simp [aS]
theorem Om {r k:Nat} {o:Obj} (hk:k≠r):(w.putObj r o).heap[k]? = w.heap[k]? := by
 rw [OI,Array.getElem?_setIfInBounds_ne (Ne.symm hk)]

theorem L9 (hs:bK ρ h w) {A:Nat} {L:Loc} (hA:ρ A=some L) {env:List Value} {ps:List Tmp} {assign body:Code} {st:LoopState} {dt:Option Code} (hg:h.get A=some (.loop env ps assign body st dt)) :
 ∃ l:Loop,w.heap[L.b]? = some (.loop l)∧l.state=st∧l.pending=dt∧l.params.toList=ps∧l.assign=assign∧l.body=body∧cd ρ env l.tmps∧cy ρ assign∧cy ρ body ∧
   ∀ Kz o7,Fr ρ ρ h (h.set A (.loop env ps assign body Kz o7)) w (w.putObj L.b (.loop { l with state:=Kz,pending:=o7 }))∧bK ρ (h.set A (.loop env ps assign body Kz o7)) (w.putObj L.b (.loop { l with state:=Kz,pending:=o7 })):=by
 have hb:=hs.jX A L hA
 rw [hg] at hb
 obtain ⟨l,h1,h2,h3,h4,h5,h6,h7,h8,h9⟩:=hb
 refine ⟨l,h1,h2,h3,h4,h5,h6,h7,h8,h9,fun Kz o7=>?_⟩
 have aS:L.b < w.heap.size:=(Array.getElem?_eq_some_iff.1 h1).1
 exact Ma hs hA hg (by simp) (by simp) rfl rfl rfl (by rw [OI];simp) (fun q hq=>Om hq) ⟨_,zuz aS,rfl,rfl,h4,h5,h6,h7,h8,h9⟩

theorem zfT (hT:T.Fits P) {C:Fn→List Value→Heap→Option (Value × Heap)} {D:Array Oper→Env→Heap→Option (Env × Heap)} {gs:List Nat} (hC:CS P gs C) (hg:rp C) (hD:DS P gs D) (NB:zsD D) (rd rl:Option Nat) (n0:Nat) (B:List Deferred) (nr:Bool) (fuel:Nat) :
 ∀ (c:Code) (e:Env) (h:Heap) (x:Ex) (e':Env) (h':Heap) (ρ:ct) (a:Act) (w:World) (Q:Exit→Act→World→Prop),dx P T C D rd fuel c e h=some (x,e',h')→cy ρ c→(nr=true→jL c=true)→cL gs ρ→bK ρ h w→eY ρ h h'→cd ρ e a.tmps→Marks n0 B nr ρ w a.defers→Fh ρ rd rl→n0≤w.heap.size →
   (∀ ρ' a' w',Fr ρ ρ' h h' w w'→bK ρ' h' w'→cd ρ' e' a'.tmps→Marks n0 B nr ρ' w' a'.defers→Q x.to a' w')→c.wpIn (WR rl) 0 P Q a w:=by
 intro c
 induction c with
 |skip =>
  intro e h x e' h' ρ a w Q ak _ _ _ hs _ he hd _ _ hQ
  simp only [dx,Option.some.injEq,Prod.mk.injEq] at ak
  obtain ⟨rfl,rfl,rfl⟩:=ak
  exact wpIn_skip (hQ ρ a w (Fr.refl _ _ _) hs he hd)
 |region id ops d =>
  intro e h x e' h' ρ a w Q ak di _ hG hs hf he hd _ _ hQ
  simp only [dx,Option.map_eq_some_iff,Prod.exists,Prod.mk.injEq] at ak
  obtain ⟨e1,h1,hr,rfl,rfl,rfl⟩:=ak
  have hQ':∀ ρ' a' w',Fr ρ ρ' h h1 w w'→bK ρ' h1 w'→cd ρ' e1 a'.tmps→a'.defers=a.defers→Q .normal a' w':=fun ρ' a' w' f1 s1 r1 d1=>hQ ρ' a' w' f1 s1 r1 (by rw [d1];exact hd.step f1)
  cases d with
  |true =>
   simp only [if_true] at hr
   exact hD rl id ops e e1 h h1 ρ a w Q hr di hG hs hf he hQ'
  |false =>
   simp only [Bool.false_eq_true,if_false] at hr
   exact wpIn_region_list (Yx hT hC hg ops.toList e e1 h h1 ρ a w hr di hG hs hf he rfl hQ')
 |seq c1 c2 NR Xc =>
  intro e h x e' h' ρ a w Q ak di j5 hG hs hf he hd mf hn hQ
  simp only [dx] at ak
  have xq:nr=true→jL c1=true:=fun q=>by have:=j5 q;simp only [jL,Bool.and_eq_true] at this;exact this.1
  have Dn:nr=true→jL c2=true:=fun q=>by have:=j5 q;simp only [jL,Bool.and_eq_true] at this;exact this.2
  refine wpIn_seq ?_
  split at ak
  ·rename_i e1 h1 h2
   have dB:=(Ej hg NB rd fuel c2 _ _ _ _ _ ak).size
   refine NR e h .normal e1 h1 ρ a w _ h2 di.1 xq hG hs (hf.left dB) he hd mf hn fun ρ1 a1 w1 f1 s1 r1 d1=>?_
   exact Xc e1 h1 x e' h' ρ1 a1 w1 Q ak (di.2.mono f1.grow) Dn (hG.mono f1.grow) s1 (hf.right f1) r1 d1 (mf.mono f1.grow) (Nat.le_trans hn f1.size) fun ρ2 a2 w2 f2 s2 r2 d2=>hQ ρ2 a2 w2 (f1.trans f2) s2 r2 d2
  ·rename_i aO
   refine NR e h x e' h' ρ a w _ ak di.1 xq hG hs hf he hd mf hn fun ρ1 a1 w1 f1 s1 r1 d1=>?_
   cases x with
   |normal=>exact (aO e' h' ak).elim
   |exit id=>exact hQ ρ1 a1 w1 f1 s1 r1 d1
   |ret=>exact hQ ρ1 a1 w1 f1 s1 r1 d1
 |cond c c1 c2 NR Xc =>
  intro e h x e' h' ρ a w Q ak di j5 hG hs hf he hd mf hn hQ
  have hc:=he.operand di.1
  have xq:nr=true→jL c1=true:=fun q=>by have:=j5 q;simp only [jL,Bool.and_eq_true] at this;exact this.1
  have Dn:nr=true→jL c2=true:=fun q=>by have:=j5 q;simp only [jL,Bool.and_eq_true] at this;exact this.2
  simp only [dx] at ak
  split at ak
  ·rename_i hb
   rw [hb] at hc
   exact wpIn_cond_true (hc.bG rfl) (NR e h x e' h' ρ a w Q ak di.2.1 xq hG hs hf he hd mf hn hQ)
  ·rename_i hb
   rw [hb] at hc
   exact wpIn_cond_false (hc.bG rfl) (Xc e h x e' h' ρ a w Q ak di.2.2 Dn hG hs hf he hd mf hn hQ)
  ·cases ak
 |block id c ih =>
  intro e h x e' h' ρ a w Q ak di j5 hG hs hf he hd mf hn hQ
  simp only [dx] at ak
  refine wpIn_block ?_
  split at ak
  ·rename_i i e1 h1 h2
   split at ak
   ·rename_i hi
    simp only [Option.some.injEq,Prod.mk.injEq] at ak
    obtain ⟨rfl,rfl,rfl⟩:=ak
    refine ih e h (.exit i) e1 h1 ρ a w _ h2 di j5 hG hs hf he hd mf hn fun ρ1 a1 w1 f1 s1 r1 d1=>?_
    simp only [Ex.to,Exit.inBlock,if_pos hi]
    exact hQ ρ1 a1 w1 f1 s1 r1 d1
   ·rename_i hi
    simp only [Option.some.injEq,Prod.mk.injEq] at ak
    obtain ⟨rfl,rfl,rfl⟩:=ak
    refine ih e h (.exit i) e1 h1 ρ a w _ h2 di j5 hG hs hf he hd mf hn fun ρ1 a1 w1 f1 s1 r1 d1=>?_
    simp only [Ex.to,Exit.inBlock,if_neg hi]
    exact hQ ρ1 a1 w1 f1 s1 r1 d1
  ·rename_i aO
   refine ih e h x e' h' ρ a w _ ak di j5 hG hs hf he hd mf hn fun ρ1 a1 w1 f1 s1 r1 d1=>?_
   cases x with
   |normal=>exact hQ ρ1 a1 w1 f1 s1 r1 d1
   |exit i=>exact (aO i e' h' ak).elim
   |ret=>exact hQ ρ1 a1 w1 f1 s1 r1 d1
 |loop c ih =>
  intro e h x e' h' ρ a w Q ak di j5 hG hs hf he hd mf hn hQ
  simp only [dx] at ak
  refine wpIn_loop_rounds fuel ?_
  have key:∀ (n:Nat) (e:Env) (h:Heap) (ρ:ct) (a:Act) (w:World),iter (dx P T C D rd fuel c) n e h=some (x,e',h')→cy ρ c→cL gs ρ→bK ρ h w→eY ρ h h'→cd ρ e a.tmps→Marks n0 B nr ρ w a.defers→Fh ρ rd rl→n0≤w.heap.size →
   (∀ ρ' a' w',Fr ρ ρ' h h' w w'→bK ρ' h' w'→cd ρ' e' a'.tmps→Marks n0 B nr ρ' w' a'.defers→Q x.to a' w')→Code.roundsIn (WR rl) 0 P c Q n a w:=by
   intro n
   induction n with
   |zero=>intro e h ρ a w hi;simp [iter] at hi
   |succ n Kg =>
    intro e h ρ a w hi di hG hs hf he hd mf hn hQ
    simp only [iter] at hi
    rw [roundsIn_succ]
    split at hi
    ·rename_i e1 h1 h2
     have dB:=(Y0 (Ej (P:=P) (T:=T) hg NB rd fuel c) n _ _ _ _ _ hi).size
     refine ih e h .normal e1 h1 ρ a w _ h2 di j5 hG hs (hf.left dB) he hd mf hn fun ρ1 a1 w1 f1 s1 r1 d1=>?_
     exact Kg e1 h1 ρ1 a1 w1 hi (di.mono f1.grow) (hG.mono f1.grow) s1 (hf.right f1) r1 d1 (mf.mono f1.grow) (Nat.le_trans hn f1.size) fun ρ2 a2 w2 f2 s2 r2 d2=>hQ ρ2 a2 w2 (f1.trans f2) s2 r2 d2
    ·rename_i aO
     refine ih e h x e' h' ρ a w _ hi di j5 hG hs hf he hd mf hn fun ρ1 a1 w1 f1 s1 r1 d1=>?_
     cases x with
     |normal=>exact (aO e' h' hi).elim
     |exit id=>exact hQ ρ1 a1 w1 f1 s1 r1 d1
     |ret=>exact hQ ρ1 a1 w1 f1 s1 r1 d1
  exact key fuel e h ρ a w ak di hG hs hf he hd mf hn hQ
 |exit id =>
  intro e h x e' h' ρ a w Q ak _ _ _ hs _ he hd _ _ hQ
  simp only [dx,Option.some.injEq,Prod.mk.injEq] at ak
  obtain ⟨rfl,rfl,rfl⟩:=ak
  exact wpIn_exit (hQ ρ a w (Fr.refl _ _ _) hs he hd)
 |ret =>
  intro e h x e' h' ρ a w Q ak _ _ _ hs _ he hd _ _ hQ
  simp only [dx,Option.some.injEq,Prod.mk.injEq] at ak
  obtain ⟨rfl,rfl,rfl⟩:=ak
  exact wpIn_ret (hQ ρ a w (Fr.refl _ _ _) hs he hd)
 |label l =>
  intro e h x e' h' ρ a w Q ak _ _ _ hs _ he hd _ _ hQ
  simp only [dx,Option.some.injEq,Prod.mk.injEq] at ak
  obtain ⟨rfl,rfl,rfl⟩:=ak
  exact wpIn_label (hQ ρ a w (Fr.refl _ _ _) hs he hd)
 |rangeFunc g ps assign body _ _ =>
  intro e h x e' h' ρ a w Q ak di j5 hG hs hf he hd mf hn hQ
  simp only [dx] at ak
  have JO:¬ nr=true:=fun q=>by have:=j5 q;simp [jL] at this
  have xh:=he.operand di.1
  unfold GA at ak
  split at ak
  ·rename_i f first captured lr
   split at ak
   ·rename_i As
    simp only [Bool.and_eq_true] at As
    obtain ⟨As,oD⟩:=As
    split at ak
    ·rename_i r0 h2 mG
     rw [lr] at xh
     generalize Vv:a.eval g=ag at xh
     cases xh with
     |func _ q1 q2 q3 q4 =>
      rename_i fQ c8
      have jO:cu ρ first.toList fQ.toList:=⟨by simpa using q1,fun i x y hx hy=>q3 i x y (by simpa using hx) (by simpa using hy)⟩
      have kH:cu ρ captured.toList c8.toList:=⟨by simpa using q2,fun i x y hx hy=>q4 i x y (by simpa using hx) (by simpa using hy)⟩
      have fp:=hg _ _ _ _ _ mG
      have nA:=ze3 ak
      have uF:(h.push (.loop e ps.toList assign body .ready none)).size=h.size+1:=rfl
      have mg:=fp.size
      have xB:=nA.size
      have fk:ρ h.size=none:=hf h.size (Nat.le_refl _) (by omega)
      refine wpIn_rangeFunc fun fn _=>?_
      /- the record is laid -/
      have dO:∃ (l:Nat) (mark:List Deferred) (w1:World) (lo:Loop),(Instr.enterLoop fn a.tmps ps assign body (WR rl).round).run P w=.ok (l,mark) w1∧w.heap.size≤l∧w1.heap[l]? = some (.loop lo) ∧
       lo.state=.ready∧lo.pending=none∧lo.params=ps∧lo.assign=assign∧lo.body=body∧lo.tmps=a.tmps∧(∀ k,k < w.heap.size→w1.heap[k]? = w.heap[k]?)∧w.heap.size≤w1.heap.size∧w1.os=w.os∧w1.tape=w.tape∧w1.output=w.output ∧
       (∀ ρ1,(∀ A L,ρ1 A=some L→ρ A=some L∨L.b=l)→Marks n0 B nr ρ1 w1 (mark++a.defers)):=by
       cases rl with
       |none =>
        refine ⟨_,_,_,{ state:=.ready,pending:=none,fn,tmps:=a.tmps,params:=ps,assign,body,defers:=w.heap.size },run_enterLoop_outer fn a.tmps ps assign body,Nat.le_succ _,by rw [World.bI,World.bI,Array.getElem?_push,if_pos (by simp)],rfl,rfl,rfl,rfl,rfl,rfl,?_,by simp [World.bI];omega,rfl,rfl,rfl,?_⟩
        ·intro k hk
         rw [World.bI,World.bI,Array.getElem?_push,if_neg (by simp;omega),Array.getElem?_push,if_neg (by omega)]
        ·intro ρ1 A9
         obtain ⟨rs,m1,m2,_,m3⟩:=hd
         refine ⟨w.heap.size::rs,by simp [m1],?_,fun q=>(JO q).elim,?_⟩
         ·refine List.nodup_cons.2 ⟨fun b8=>?_,m2⟩
          have:=(Array.getElem?_eq_some_iff.1 (m3 _ b8).2.1).1
          omega
         ·intro r hr
          rcases List.mem_cons.1 hr with rfl|hr
          ·refine ⟨hn,by simp [World.bI,Array.getElem?_push],fun A L hA hb=>?_⟩
           rcases A9 A L hA with h4|h4
           ·have:=hs.lt h4;omega
           ·omega
          ·obtain ⟨a1,a2,a3⟩:=m3 r hr
           have aS:r < w.heap.size:=(Array.getElem?_eq_some_iff.1 a2).1
           refine ⟨a1,?_,fun A L hA hb=>?_⟩
           ·rw [World.bI,World.bI,Array.getElem?_push,if_neg (by simp;omega),Array.getElem?_push,if_neg (by omega)]
            exact a2
           ·rcases A9 A L hA with h4|h4
            ·exact a3 A L h4 hb
            ·omega
       |some l0 =>
        cases rd with
        |none=>exact mf.elim
        |some A0 =>
         obtain ⟨L0,dS,rfl⟩:=mf
         have WA:∃ lo:Loop,w.heap[L0.b]? = some (.loop lo):=by
          simp only [O6] at As
          split at As
          ·rename_i V1
           obtain ⟨lo,h4,_⟩:=L9 hs dS V1
           exact ⟨lo,h4⟩
          ·cases As
         obtain ⟨lo,cR⟩:=WA
         have dG:(Instr.enterLoop fn a.tmps ps assign body (some L0.b)).run P w=.ok (w.heap.size,[]) (w.alloc (.loop { state:=.ready,pending:=none,fn,tmps:=a.tmps,params:=ps,assign,body,defers:=lo.defers })):=by
          unfold Instr.enterLoop
          simp only [Sem.run_bind,run_getLoop cR,Sem.run_pure,Result.andThen,run_newObj_alloc]
         refine ⟨_,_,_,{ state:=.ready,pending:=none,fn,tmps:=a.tmps,params:=ps,assign,body,defers:=lo.defers },dG,Nat.le_refl _,by simp [World.bI],rfl,rfl,rfl,rfl,rfl,rfl,?_,by simp [World.bI],rfl,rfl,rfl,?_⟩
         ·intro k hk
          rw [World.bI,Array.getElem?_push,if_neg (by omega)]
         ·intro ρ1 A9
          obtain ⟨rs,m1,m2,_,m3⟩:=hd
          refine ⟨rs,by simp [m1],m2,fun q=>(JO q).elim,?_⟩
          intro r hr
          obtain ⟨a1,a2,a3⟩:=m3 r hr
          have aS:r < w.heap.size:=(Array.getElem?_eq_some_iff.1 a2).1
          refine ⟨a1,?_,fun A L hA hb=>?_⟩
          ·rw [World.bI,Array.getElem?_push,if_neg (by omega)]
           exact a2
          ·rcases A9 A L hA with h4|h4
           ·exact a3 A L h4 hb
           ·omega
      obtain ⟨l,mark,w1,lo,dO,hl,uN,l1,l2,l3,l4,l5,l6,hold,dB,rR,jD,jA,JI⟩:=dO
      obtain ⟨ρ1,A9,f1,s1⟩:=OH (W:=w1) (L:=⟨l,0,0⟩) (b:=.loop e ps.toList assign body .ready none) hs fk hold dB rR jD jA hl
       (fun ρ' ea=>⟨lo,uN,l1,l2,by rw [l3],l4,l5,by rw [l6];exact he.mono ea,di.2.1.mono ea,di.2.2.mono ea⟩)
      have gH:Marks n0 B nr ρ1 w1 (mark++a.defers):=JI ρ1 fun A L hA=>by
       cases hρ:ρ A with
       |some L0 =>
        have e:L0=L:=by have:=f1.grow A L0 hρ;rw [hA] at this;exact (Option.some.inj this).symm
        subst e
        exact .inl rfl
       |none =>
        have h4:=(f1.fresh A L hA hρ)
        have h5:A=h.size:=by have:=h4.1;have:=h4.2.1;omega
        subst h5
        rw [A9] at hA
        cases hA
        exact .inr rfl
      have ny:eY ρ1 (h.push (.loop e ps.toList assign body .ready none)) h2:=(hf.left xB).right f1
      have dZ:cu ρ1 (first.toList++[.func (.yield h.size) #[] #[]]++captured.toList) (fQ++#[Value.func (Fn.yield l) #[] #[]]++c8).toList:=by
       have:=((jO.mono f1.grow).append (cu.cons (VR.yield A9) (.nil ρ1))).append (kH.mono f1.grow)
       simpa using this
      have jC:(resolve a.eval (rangeCall g l) 0).run P w1=.ok { target:=.fn (.func f) c8,args:=fQ++#[Value.func (Fn.yield l) #[] #[]] } w1:=by
       have hcv:a.eval (.const (.func (.yield l) #[] #[]))=.func (.yield l) #[] #[]:=rfl
       simp [resolve,Vv,hcv,Deferred.ofValue]
      have hinv:∀ w,(invoke (.fn (.func f) c8) (fQ++#[Value.func (Fn.yield l) #[] #[]])).run P w=(callFunc f (fQ++#[Value.func (Fn.yield l) #[] #[]]++c8)).run P w:=fun w=>rfl
      rcases hC.fn f _ _ _ _ mG ρ1 w1 (fQ++#[Value.func (Fn.yield l) #[] #[]]++c8) (hG.mono f1.grow) s1 ny dZ with ⟨_,_,_,dE,_⟩|⟨VM,CR⟩
      ·exfalso
       unfold Pn at oD
       split at oD
       ·rename_i fn0 VX
        split at oD
        ·rename_i c0 pq
         obtain ⟨hP,gY,_⟩:=hT.fn f fn0 VX
         have fj:¬ fn0.name="runtime.NumGoroutine":=by simpa using gY
         simp [callFunc,hP,fj,pq] at dE
        ·cases oD
       ·cases oD
      ·refine ⟨l,mark,w1,_,w1,f,_,w1,dO,jC,fun _ _=>trivial,(hinv w1).trans VM,(fun hh=>by cases hh),zki (CR.mono ?_)⟩
       rintro ed w3 ⟨ρ3,u,rfl,f3,s3,_⟩
       unfold Bj at ak
       split at ak
       ·rename_i env ps2 as2 bd2 st dt C9
        have hρ3:ρ3 h.size=some ⟨l,0,0⟩:=f3.grow _ _ A9
        obtain ⟨D8,g1,g2,g3,_,_,_,_,_,_,g4⟩:=L9 s3 hρ3 C9
        obtain ⟨f4,s4⟩:=g4 .exhausted dt
        have lq:st≠.busy→∀ x1:Ex,x1=x→e=e'→h2.set h.size (.loop env ps2 as2 bd2 .exhausted dt)=h'→(Instr.endLoop l).run P w3=.ok dt (w3.putObj l (.loop { D8 with state:=.exhausted,pending:=dt }))∧Q x.to { a with defers:=mark++a.defers } (w3.putObj l (.loop { D8 with state:=.exhausted,pending:=dt })):=by
         intro eb x1 hx1 ub vP
         subst hx1 ub vP
         have cR:({ D8 with state:=LoopState.exhausted,pending:=dt }:Loop)={ D8 with state:=LoopState.exhausted }:=by
          subst g3;rfl
         refine ⟨?_,hQ ρ3 { a with defers:=mark++a.defers } _ ((f1.trans f3).trans f4) s4 (he.mono (f1.trans f3).grow) ((gH.step f3).step f4)⟩
         rw [cR,← g3]
         exact run_endLoop g1 (by rw [g2];exact eb)
        split at ak
        ·cases ak
        ·rename_i eb
         split at ak
         ·simp only [Option.some.injEq,Prod.mk.injEq] at ak
          obtain ⟨rfl,h5,h6⟩:=ak
          obtain ⟨k1,k2⟩:=lq eb _ rfl h5 h6
          exact ⟨none,_,k1,k2⟩
         ·simp only [Option.some.injEq,Prod.mk.injEq] at ak
          obtain ⟨rfl,h5,h6⟩:=ak
          obtain ⟨k1,k2⟩:=lq eb _ rfl h5 h6
          exact ⟨_,_,k1,wpIn_exit k2⟩
         ·simp only [Option.some.injEq,Prod.mk.injEq] at ak
          obtain ⟨rfl,h5,h6⟩:=ak
          obtain ⟨k1,k2⟩:=lq eb _ rfl h5 h6
          exact ⟨_,_,k1,wpIn_ret k2⟩
         ·cases ak
       ·cases ak
    ·cases ak
   ·cases ak
  ·cases ak
 |scope c ih =>
  intro e h x e' h' ρ a w Q ak di j5 hG hs hf he hd mf hn hQ
  simp only [dx] at ak
  refine zgi (ih e h x e' h' ρ a w _ ak di j5 hG hs hf he hd mf hn fun ρ1 a1 w1 f1 s1 r1 d1=>?_)
  have:=hQ ρ1 a1 w1 f1 s1 r1 d1
  cases x <;> exact this
 |goto l=>intro e h x e' h' ρ a w Q ak;simp [dx] at ak
 |refuse s=>intro e h x e' h' ρ a w Q ak;simp [dx] at ak

def MX (tmps:Array Value):ResultVar→Sem Value
 | .tmp t=>pure (tmps.getD t undef)
 | .cell a t=>do loadVar t (← asAddr (tmps.getD a undef))

theorem zr6 (fn:Func) (tmps:Array Value):results fn tmps=(do let vs ← fn.results.mapM (MX tmps);pure (if h:vs.size=1 then vs[0] else .tuple vs)):=by
 unfold results
 congr 2

theorem zlS (hT:T.Fits P) (hs:bK ρ h w) {e:Env} {tmps:Array Value} (he:cd ρ e tmps):∀ {r:ResultVar} {v:Value},rh T e h r=some v→∃ u,(MX tmps r).run P w=.ok u w∧VR ρ v u
 | .tmp t,v,hr=>by simp only [rh,Option.some.injEq] at hr;subst hr;exact ⟨_,rfl,he.2 t⟩
 | .cell a t,v,hr=>by
  simp only [rh] at hr
  have hv:=he.2 a
  simp only [MX]
  generalize e.get a=x at hv hr
  generalize tmps.getD a undef=y at hv
  obtain ⟨u,h1,h2⟩:=YS hT hs hv hr
  refine ⟨u,?_,h2⟩
  rw [← h1]
  cases hv <;> first|(simp [dz] at hr;done)|simp [Instr.loadAt,Instr.sureAddr,asAddr]

theorem YA (hT:T.Fits P) (hs:bK ρ h w) {fn:Func} {e:Env} {tmps:Array Value} (he:cd ρ e tmps) {v:Value} (hr:lF T fn e h=some v) :
 ∃ u,(results fn tmps).run P w=.ok u w∧VR ρ v u:=by
 have mH:∀ (rs:List ResultVar) (vs:List Value),rs.mapM (rh T e h)=some vs→∃ us:List Value,cu ρ vs us ∧
  (rs.mapM (MX tmps)).run P w=.ok us w:=by
  intro rs
  induction rs with
  |nil=>intro vs dF;simp at dF;subst dF;exact ⟨[],.nil ρ,by simp⟩
  |cons r rs ih =>
   intro vs dF
   rw [List.mapM_cons] at dF
   simp only [Option.bind_eq_bind,Option.bind_eq_some_iff,Option.pure_def,Option.some.injEq] at dF
   obtain ⟨v1,jO,X1,DM,rfl⟩:=dF
   obtain ⟨u1,h1,h2⟩:=zlS hT hs he jO
   obtain ⟨us,h3,h4⟩:=ih X1 DM
   refine ⟨u1::us,.cons h2 h3,?_⟩
   rw [List.mapM_cons]
   simp only [Sem.run_bind,h1,Result.andThen_ok,h4,Sem.run_pure]
 have cE:∀ us:List Value,(fn.results.toList.mapM (MX tmps)).run P w=.ok us w →
  (results fn tmps).run P w=.ok (if h:us.toArray.size=1 then us.toArray[0] else .tuple us.toArray) w:=by
  intro us h1
  rw [zr6,Array.mapM_eq_mapM_toList]
  simp only [Sem.run_bind,Sem.run_map,h1,Result.andThen_ok,Sem.run_pure]
 unfold lF at hr
 split at hr
 ·rename_i r NL
  obtain ⟨us,h1,h2⟩:=mH [r] [v] (by simp [hr])
  obtain ⟨u,us',rfl,hu,hn⟩:=h1.of_cons
  have:=hn.of_nil
  subst this
  refine ⟨u,?_,hu⟩
  have:=cE [u] (by rw [NL];exact h2)
  simpa using this
 ·rename_i aO
  simp only [Option.map_eq_some_iff] at hr
  obtain ⟨vs,dF,rfl⟩:=hr
  obtain ⟨us,h1,h2⟩:=mH _ vs dF
  refine ⟨.tuple us.toArray,?_,h1.iB⟩
  have:=cE us h2
  rw [this]
  congr 1
  have hlen:us.length≠1:=by
   intro bE
   have hl:fn.results.toList.length=us.length:=by
    have e1:vs.length=us.length:=h1.1
    have e2:∀ (rs:List ResultVar) (vs:List Value),rs.mapM (rh T e h)=some vs→rs.length=vs.length:=by
     intro rs
     induction rs with
     |nil=>intro vs dF;simp at dF;subst dF;rfl
     |cons r rs ih =>
      intro vs dF
      rw [List.mapM_cons] at dF
      simp only [Option.bind_eq_bind,Option.bind_eq_some_iff,Option.pure_def,Option.some.injEq] at dF
      obtain ⟨v1,jO,X1,DM,rfl⟩:=dF
      simp [ih X1 DM]
    rw [e2 _ _ dF,e1]
   rw [bE] at hl
   match hm:fn.results.toList,hl with
   | [r],_=>exact aO r hm
  rw [dif_neg (by simpa using hlen)]
end
end Go.Am
