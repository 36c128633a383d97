/- The plain machine: a deterministic evaluator of the model's code over a heap of its own. Definitions alone; no condition. -/
import GoSem.Step
import Derived.Calls
import Derived.Below
import Derived.Laws.AppendOwn
import Derived.Laws.MakeOwn
import Derived.Laws.CopyRow
import Derived.Deep.MidRow
import Derived.Lib.Space
import Derived.Laws.StructEq
import Derived.ChangeKeysEq
import Derived.RangeFuncRecord
import Derived.Laws.BytesArg
import Derived.Lib.ConvBytes
import Derived.CallsIn
import Derived.TacticsIn
import Derived.LoopNIn
import Derived.Scope
import Derived.RangeFuncLeaves
namespace Go.Am

inductive bh where
 |row (cells:List Value) (elem:TypeId) (ro:Bool)
 |map (es:List MapEntry) (clock:Nat)
 |loop (env:List Value) (ps:List Tmp) (assign body:Code) (st:LoopState) (dN:Option Code)
 |dead

inductive Tr where
 |nil
 |node (v:Option bh) (l r:Tr)

def Tr.get:Tr→Nat→Option bh
 | .nil,_=>none
 | .node v l r,i=>match i with
  |0=>v
  |i+1=>if i % 2 == 0 then l.get (i / 2) else r.get (i / 2)

def Tr.set:Nat→Tr→Nat→bh→Tr
 |0,t,_,_=>t
 |n+1,t,i,o =>
  match t with
  | .nil=>match i with
   |0=>.node (some o) .nil .nil
   |i+1=>if i % 2 == 0 then .node none (Tr.set n .nil (i / 2) o) .nil else .node none .nil (Tr.set n .nil (i / 2) o)
  | .node v l r=>match i with
   |0=>.node (some o) l r
   |i+1=>if i % 2 == 0 then .node v (Tr.set n l (i / 2) o) r else .node v l (Tr.set n r (i / 2) o)

structure Heap where
 size:Nat
 tr:Tr
 low:Nat

def Heap.get (h:Heap) (A:Nat):Option bh:=if A < h.size then h.tr.get A else none
def Heap.push (h:Heap) (b:bh):Heap:={ h with size:=h.size+1,tr:=h.tr.set (h.size+1) h.size b }
def Heap.set (h:Heap) (A:Nat) (b:bh):Heap:={ h with tr:=h.tr.set (A+1) A b,low:=min h.low A }
def Heap.empty:Heap:=⟨0,.nil,0⟩

def G:Nat:=18446744073709551616

abbrev Env:=List Value
def Env.get:Env→Nat→Value
 | [],_=>undef
 |v::_,0=>v
 |_::r,n+1=>Env.get r n
def Env.set:Env→Nat→Value→Env
 | [],_,_=>[]
 |_::r,0,v=>v::r
 |x::r,n+1,v=>x::Env.set r n v

def lZ:Value→Bool
 | .bool _ | .int _ _ | .string _ | .nilFunc | .nilIface=>true
 | .pointer none | .map none=>true
 | .slice none n c=>n == 0 && c == 0
 | .func (.func _) f c=>f.isEmpty && c.isEmpty
 |_=>false
def plain:Value→Bool
 | .agg cs=>cs.toList.all lZ
 |v=>lZ v
def one:Value→Bool
 | .agg _ | .tuple _=>false
 |_=>true

def iH {α:Type} (P:Program):Sem α→Option α
 | .pure a=>some a
 | .program k=>iH P (k P)
 | .mark _ k=>iH P k
 |_=>none

structure bK where
 desc:TypeId→Option TypeDesc
 /-- cells, bytes, the cells of the zero value -/
 info:TypeId→Option (Nat × Nat × List Value)
 fn:FuncId→Option Func
 /-- a type whose values are compared part by part -/
 cmp:TypeId→Bool
 /-- the zero value -/
 zero:TypeId→Option Value
 /-- the package's variables that the texts may name -/
 gs:List Nat
 /-- a type's method -/
 xE:TypeId→String→Option Method
 /-- a function that defers one call, once, on its way -/
 FA:FuncId→Bool

section
variable (P:Program) (T:bK)

def bJ (t:TypeId):Option Nat:=(T.info t).map (·.1)
def aq (t:TypeId):Option Bool:=(T.desc t).map fun
 | .struct _ | .array _ _=>true
 |_=>false

def cut (cs:List Value) (o n:Nat):Option (List Value):=if o+n≤cs.length then some ((cs.drop o).take n) else none
def az (cs:List Value) (o:Nat) (vs:List Value):List Value:=cs.take o++vs++cs.drop (o+vs.length)

def gQ (A o n:Nat) (h:Heap):Option (List Value) :=
 match h.get A with
 |some (.row cs _ _)=>cut cs o n
 |_=>none

def dI (t:TypeId) (x:Value) (h:Heap):Option Value :=
 match x with
 | .pointer (some ⟨A,o,none⟩) =>
  (aq T t).bind fun g =>
   if g then (bJ T t).bind fun n=>(gQ A o n h).map fun l=>.agg l.toArray
   else (gQ A o 1 h).bind fun l=>l[0]?
 |_=>none

def kj (A o:Nat) (vs:List Value) (h:Heap):Option Heap :=
 match h.get A with
 |some (.row cs e false)=>if o+vs.length≤cs.length && vs.all one then some (h.set A (.row (az cs o vs) e false)) else none
 |_=>none

def ic (t:TypeId) (x v:Value) (h:Heap):Option Heap :=
 match x with
 | .pointer (some ⟨A,o,none⟩)=>(bJ T t).bind fun n=>if v.cells.size=n then kj A o v.cells.toList h else none
 |_=>none

def newRow (e:TypeId) (cs:List Value) (h:Heap):Value × Heap:=(.pointer (some ⟨h.size,0,none⟩),h.push (.row cs e false))

def nc (x:Value) (k:Nat) (h:Heap):Option (List Value) :=
 match x with
 | .slice (some ⟨A,o,none⟩) n _=>if n*k=0 then some [] else gQ A o (n*k) h
 | .slice none 0 _=>some []
 |_=>none

def fO (x:Value) (k:Nat) (h:Heap):Option (Nat × List Value) :=
 match x with
 | .string b=>if k=1 then some (b.size,b.data.toList.map fun u=>Value.int .u8 u.toNat) else none
 | .slice _ m _=>(nc x k h).map fun l=>(m,l)
 |_=>none

def hZ (t:TypeId) (s x:Value) (h:Heap):Option (Value × Heap) :=
 match T.desc t with
 |some (.slice e)=>(T.info e).bind fun (k,bytes,_) =>
  (fO x k h).bind fun (m,news) =>
  match s with
  | .slice base n c =>
   if m=0 then some (s,h) else
   if k=0 || (n+m)*bytes > 140737488355328 || n+m > 1152921504606846976 || !news.all one then none else
   if n+m≤c % G then
    match base with
    |some ⟨A,o,none⟩=>if c < G || c / G=k then (kj A (o+n*k) news h).map fun h'=>(.slice base (n+m) c,h') else none
    |_=>none
   else
    (nc s k h).bind fun eJ =>
    if c < G then some (.slice (some ⟨h.size,0,none⟩) (n+m) (G*k+(n+m)),h.push (.row (eJ++news) e false))
    else match base with
     |some ⟨A,_,none⟩=>match h.get A with
      |some (.row _ e' false) =>
       if e'=e && c / G=k then some (.slice (some ⟨h.size,0,none⟩) (n+m) (G*k+(n+m)),(h.set A .dead).push (.row (eJ++news) e false)) else none
      |_=>none
     |_=>none
  |_=>none
 |_=>none

def yf (x:Value) (hi:Nat):Option Nat :=
 match x with
 | .int _ i=>if 0≤i∧i≤hi then some i.toNat else none
 |_=>none

def rq (len cap:Nat) (l h m:Option Value):Option (Nat × Nat × Nat) :=
 (match m with|some v=>yf v cap|none=>some cap).bind fun m' =>
 (match h,m with|some v,_=>yf v m'|none,none=>some len|none,some _=>none).bind fun h' =>
 (match l with|some v=>yf v h'|none=>some 0).bind fun l'=>some (l',h',m')

def ki (t:TypeId) (x:Value) (l h m:Option Value):Option Value :=
 match T.desc t,x with
 |some .string,.string s=>if m.isSome then none else (rq s.size s.size l h none).map fun (l',h',_)=>.string (s.extract l' h')
 |some (.array n e),.pointer (some ⟨A,o,none⟩) =>
  (if n < G then rq n n l h m else none).bind fun (l',h',m')=>(bJ T e).map fun k=>.slice (some ⟨A,if m'=l' then o else o+l'*k,none⟩) (h' - l') (m' - l')
 |some (.slice e),.slice a n c =>
  (bJ T e).bind fun k =>
  if c < G then
   (rq n c l h m).bind fun (l',h',m')=>match a with
    |some ⟨A,o,none⟩=>some (.slice (some ⟨A,if m'=l' then o else o+l'*k,none⟩) (h' - l') (m' - l'))
    |none=>some (.slice none (h' - l') (m' - l'))
    |_=>none
  else match a with
   |some ⟨A,o,none⟩ =>
    if c / G=k then
     (rq n (c % G) l h m).map fun (l',h',m')=>match m with
      |some _=>.slice (some ⟨A,if m'=l' then o else o+l'*k,none⟩) (h' - l') (m' - l')
      |none=>.slice (some ⟨A,o+l'*k,none⟩) (h' - l') (G*k+(m' - l'))
    else none
   |_=>none
 |_,_=>none

def fW (t:TypeId) (x i:Value):Option Value :=
 match i with
 | .int _ i=>match T.desc t,x with
  |some (.array n e),.pointer (some ⟨A,o,none⟩)=>if 0≤i∧i < n then (bJ T e).map fun k=>.pointer (some ⟨A,o+i.toNat*k,none⟩) else none
  |some (.slice e),.slice (some ⟨A,o,none⟩) n _=>if 0≤i∧i < n then (bJ T e).map fun k=>.pointer (some ⟨A,o+i.toNat*k,none⟩) else none
  |_,_=>none
 |_=>none

def dg (s:TypeId) (x:Value) (f:Nat):Option Value :=
 match T.desc s,x with
 |some (.struct fs),.pointer (some ⟨A,o,none⟩) =>
  (fs[f]?).bind fun f=>(bJ T f.type).bind fun n=>if n=0 then none else some (.pointer (some ⟨A,o+f.offset,none⟩))
 |_,_=>none

def aN (t:TypeId) (cs:List Value) (o:Nat):Option Value :=
 (aq T t).bind fun g=>if g then (bJ T t).bind fun n=>(cut cs o n).map fun l=>.agg l.toArray else cs[o]?

def EF (t:TypeId) (x:Value) (f:Nat):Option Value :=
 match T.desc t,x with
 |some (.struct fs),.agg cs=>(fs[f]?).bind fun f=>aN T f.type cs.toList f.offset
 |_,_=>none

def CM (E:TypeId→Value→Value→Option Bool) (xs ys:List Value):List (TypeId × Nat)→Option Bool
 | []=>some true
 |(t,o)::r=>(aN T t xs o).bind fun a=>(aN T t ys o).bind fun b=>(E t a b).bind fun c=>if c then CM E xs ys r else some false
def JD:List Field→Option (List (TypeId × Nat))
 | []=>some []
 |f::fs=>if f.name="_" then none else (JD fs).map fun r=>(f.type,f.offset)::r
def JR (e:TypeId) (k:Nat):Nat→Nat→List (TypeId × Nat)
 |0,_=>[]
 |n+1,i=>(e,i*k)::JR e k n (i+1)
def fB:Nat→TypeId→Value→Value→Option Bool
 |0,_,_,_=>none
 |d+1,t,x,y=>match T.desc t,x,y with
  |some .bool,.bool a,.bool b=>some (a == b)
  |some (.int _),.int k a,.int k' b=>if k=k' then some (a == b) else none
  |some .string,.string a,.string b=>some (a.data.toList == b.data.toList)
  |some (.struct fs),.agg xs,.agg ys=>if T.cmp t then (JD fs.toList).bind fun ps=>CM T (fB d) xs.toList ys.toList ps else none
  |some (.array n e),.agg xs,.agg ys=>(bJ T e).bind fun k=>CM T (fB d) xs.toList ys.toList (JR e k n 0)
  |_,_,_=>none

def mb (place:Nat→Option (Nat × Nat)) (cells:List Value):List (Nat × Value)→Option (List Value)
 | []=>some cells
 |(i,v)::rest=>(place i).bind fun (o,n) =>
  if v.cells.size=n∧o+n≤cells.length then mb place (az cells o v.cells.toList) rest else none

def R5:List Field→Option (List (Nat × Nat))
 | []=>some []
 |f::fs=>(bJ T f.type).bind fun n=>(R5 fs).map fun r=>(f.offset,n)::r

def nV (t:TypeId) (parts:List (Nat × Value)):Option Value :=
 (T.info t).bind fun (_,_,z) =>
 match T.desc t with
 |some (.struct fs)=>(R5 T fs.toList).bind fun places=>(mb (fun k=>places[k]?) z parts).map fun cs=>.agg cs.toArray
 |some (.array _ e)=>(bJ T e).bind fun k=>(mb (fun i=>some (i*k,k)) z parts).map fun cs=>.agg cs.toArray
 |_=>none

def kb (z:List Value) (n:Nat):List Value:=(List.replicate n z).flatten

def oZ (t:TypeId) (len:Nat) (parts:List (Nat × Value)) (h:Heap):Option (Value × Heap) :=
 match T.desc t with
 |some (.slice e)=>(T.info e).bind fun (k,_,z) =>
  if len*k > 16777216 || len > 16777216 then none else
  (mb (fun i=>some (i*k,k)) (kb z len) parts).map fun cs=>(.slice (some ⟨h.size,0,none⟩) len len,h.push (.row cs e false))
 |_=>none

def HA (t:TypeId) (l c:Value) (h:Heap):Option (Value × Heap) :=
 match T.desc t,l,c with
 |some (.slice e),.int _ l,.int _ c=>(T.info e).bind fun (_,bytes,z) =>
  if 0≤l∧l≤c∧c≤1152921504606846976∧c*bytes≤140737488355328 then
   some (.slice (some ⟨h.size,0,none⟩) l.toNat c.toNat,h.push (.row (kb z c.toNat) e false))
  else none
 |_,_,_=>none

def H9 (t:TypeId) (d s:Value) (h:Heap):Option (Value × Heap) :=
 match T.desc t,d with
 |some (.slice e),.slice a n _=>(bJ T e).bind fun k =>
  (fO s k h).bind fun (m,src) =>
  if min m n=0 then some (.int .i64 0,h) else
  match a with
  |some ⟨A,o,none⟩=>(kj A o (src.take (min m n*k)) h).map fun h'=>(.int .i64 (min m n:Nat),h')
  |_=>none
 |_,_=>none

def pD (t:TypeId) (x:Value) (h:Heap):Option Heap :=
 match T.desc t,x with
 |some (.slice e),.slice a n _ =>
  if n=0 then some h else
  (T.info e).bind fun (_,_,z) =>
  match a with
  |some ⟨A,o,none⟩=>kj A o (kb z n) h
  |_=>none
 |_,_=>none

def EO (d:TypeDesc) (x y:Value):Option Bool :=
 match d,x,y with
 | .pointer _,.pointer none,.pointer b=>some b.isNone
 | .pointer _,.pointer (some _),.pointer none=>some false
 | .slice _,.slice none _ _,.slice b _ _=>some b.isNone
 | .slice _,.slice (some _) _ _,.slice none _ _=>some false
 | .map _ _,.map none,.map b=>some b.isNone
 | .map _ _,.map (some _),.map none=>some false
 | .func _ _ _,.nilFunc,.nilFunc=>some true
 | .func _ _ _,.nilFunc,.func _ _ _=>some false
 | .func _ _ _,.func _ _ _,.nilFunc=>some false
 |_,_,_=>none

def rp (op:BinOp) (x y:Value):Option Value :=
 match op,x,y with
 | .add,.int k a,.int k' b=>if k=k' then some (.int k (k.wrap (a+b))) else none
 | .sub,.int k a,.int k' b=>if k=k' then some (.int k (k.wrap (a - b))) else none
 | .eql,.int k a,.int k' b=>if k=k' then some (.bool (a == b)) else none
 | .neq,.int k a,.int k' b=>if k=k' then some (.bool (a != b)) else none
 | .lss,.int k a,.int k' b=>if k=k' then some (.bool (a < b)) else none
 | .leq,.int k a,.int k' b=>if k=k' then some (.bool (a≤b)) else none
 | .gtr,.int k a,.int k' b=>if k=k' then some (.bool (a > b)) else none
 | .geq,.int k a,.int k' b=>if k=k' then some (.bool (a ≥ b)) else none
 |_,_,_=>none

def cw (op:BinOp) (t:TypeId) (x y:Value):Option Value :=
 match rp op x y with
 |some v=>some v
 |none =>
  match (T.desc t).bind fun d=>EO d x y with
  |some b=>(match op with | .eql=>some (.bool b) | .neq=>some (.bool !b)|_=>none)
  |none =>
   if plain x && plain y then
    match x,y with
    | .nilIface,_=>none
    | .agg _,.agg _=>if T.cmp t then (match op with
     | .eql=>(fB T 20 t x y).map fun b=>.bool b
     | .neq=>(fB T 20 t x y).map fun b=>.bool !b
     |_=>none) else none
    |_,_=>(iH P (binOp op t x y)).bind fun v=>if plain v then some v else none
   else none

def bc (t:TypeId) (x:Value) (h:Heap):Option Value :=
 match T.desc t,x with
 |some .string,.string s=>some (.int .i64 s.size)
 |some (.slice _),.slice _ n _=>some (.int .i64 n)
 |some (.map _ _),.map none=>some (.int .i64 0)
 |some (.map _ _),.map (some A)=>(match h.get A with
  |some (.map es _)=>some (.int .i64 es.length)
  |_=>none)
 |_,_=>none

/-! ### Maps: keys without an address, held against each other part by part -/
def Ig:Value→Value→Bool
 | .bool a,.bool b=>a == b
 | .int j a,.int k b=>decide (j=k) && a == b
 | .string a,.string b=>a.data.toList == b.data.toList
 |_,_=>false
def J7:List Value→List Value→Bool
 | [],[]=>true
 |x::xs,y::ys=>Ig x y && J7 xs ys
 |_,_=>false
def HJ:Value→Value→Bool
 | .agg a,.agg b=>J7 a.toList b.toList
 |x,y=>Ig x y
def uP (kt:TypeId) (k:Value):Bool:=if plain k then (match fB T 20 kt k k with|some b=>b|none=>false) else false
def pV (kt:TypeId) (k:Value):List MapEntry→Nat→Option (Option (Nat × Value))
 | [],_=>some none
 |e::es,i=>(fB T 20 kt k e.key).bind fun b=>if b then some (some (i,e.val)) else pV kt k es (i+1)
def SK (x:Value) (h:Heap):Option (List MapEntry) :=
 match x with
 | .map none=>some []
 | .map (some A)=>(match h.get A with|some (.map es _)=>some es|_=>none)
 |_=>none
def xX (t:TypeId) (x k:Value) (ok:Bool) (h:Heap):Option Value :=
 match T.desc t with
 |some (.map kt et) =>
  if uP T kt k then
   (SK x h).bind fun es=>(pV T kt k es 0).bind fun r=>(match r with
    |some (_,v)=>some (v,true)
    |none=>(T.zero et).map fun z=>(z,false)).map fun (v,b)=>if ok then .tuple #[v,.bool b] else v
  else none
 |_=>none
def oB (t:TypeId) (x k v:Value) (h:Heap):Option Heap :=
 match T.desc t,x with
 |some (.map kt _),.map (some A)=>(match h.get A with
  |some (.map es clock) =>
   if uP T kt k then
    (pV T kt k es 0).bind fun r=>match r with
     |some (i,_)=>(es[i]?).bind fun e=>if HJ e.key k then some (h.set A (.map (es.modify i fun e=>{ e with key:=k,val:=v }) clock)) else none
     |none=>some (h.set A (.map (es++[{ key:=k,val:=v,born:=clock }]) (clock+1)))
   else none
  |_=>none)
 |_,_=>none

def bn (e:Env):Operand→Value
 | .tmp t=>e.get t
 | .const v=>v
 | .global g=>.pointer (some ⟨g,0,none⟩)
 | .func f=>.func (.func f) #[] #[]

def vE (t:TypeId) (x k:Value) (h:Heap):Option Heap :=
 match T.desc t,x with
 |some (.map kt _),.map none=>if uP T kt k then some h else none
 |some (.map kt _),.map (some A)=>(match h.get A with
  |some (.map es clock) =>
   if uP T kt k then
    (pV T kt k es 0).bind fun r=>match r with
     |some (i,_)=>some (h.set A (.map (es.eraseIdx i) clock))
     |none=>some (h.set A (.map es clock))
   else none
  |_=>none)
 |_,_=>none

def zc (t:TypeId) (x k:Value) (h:Heap):Option (Value × Heap) :=
 match T.desc t,x with
 |some (.map kt et),.map (some A)=>(match h.get A with
  |some (.map es clock) =>
   if uP T kt k then
    (pV T kt k es 0).bind fun r=>match r with
     |some (i,v)=>(es[i]?).bind fun e=>if HJ e.key k then some (.tuple #[v,.int .i64 e.born],h.set A (.map (es.modify i fun e=>{ e with key:=k }) clock)) else none
     |none=>(T.zero et).map fun z=>(.tuple #[z,.int .i64 clock],h.set A (.map (es++[{ key:=k,val:=z,born:=clock }]) (clock+1)))
   else none
  |_=>none)
 |_,_=>none
def Kj (s:Int):List MapEntry→Nat→Option Nat
 | [],_=>none
 |e::es,i=>if (e.born:Int)=s then some i else Kj s es (i+1)
def uF (x s v:Value) (h:Heap):Option Heap :=
 match x,s with
 | .map (some A),.int _ b=>(match h.get A with
  |some (.map es clock)=>(Kj b es 0).map fun i=>h.set A (.map (es.modify i fun e=>{ e with val:=v }) clock)
  |_=>none)
 |_,_=>none

/-! ### Interfaces -/
def EH (t:TypeId) (x:Value):Option Value:=match T.desc t with
 |some (.interface _)=>none
 |some _=>some (.iface t x)
 |none=>none
def HM (x:Value) (asserted:TypeId) (ok:Bool):Option Value:=match T.desc asserted with
 |some (.interface _)=>none
 |some _=>(match x with
  | .iface t v=>if t=asserted then some (if ok then .tuple #[v,.bool true] else v) else if ok then (T.zero asserted).map fun z=>.tuple #[z,.bool false] else none
  | .nilIface=>if ok then (T.zero asserted).map fun z=>.tuple #[z,.bool false] else none
  |_=>none)
 |none=>none
inductive gH where
 |val (v:Value)
 |var (p:Value)
def gH.get (t:TypeId) (h:Heap):gH→Option Value
 | .val v=>some v
 | .var p=>dI T t p h
def J4 (h:Heap):List FieldStep→TypeId→gH→Option (TypeId × gH)
 | [],t,x=>some (t,x)
 |s::rest,t,x=>match T.desc s.struct with
  |some (.struct fs)=>(fs[s.index]?).bind fun f =>
   if s.deref then (x.get T t h).bind fun p=>(dg T s.struct p s.index).bind fun q=>J4 h rest f.type (.var q)
   else match x with
    | .var p=>(dg T s.struct p s.index).bind fun q=>J4 h rest f.type (.var q)
    | .val (.agg cs)=>(aN T f.type cs.toList f.offset).bind fun v=>J4 h rest f.type (.val v)
    |_=>none
  |_=>none
def TU (xt:TypeId) (x:gH) (ptr:Bool) (h:Heap):Option Value :=
 match T.desc xt,ptr,x with
 |some (.pointer _),true,x=>x.get T xt h
 |some (.pointer elem),false,x=>(x.get T xt h).bind fun p=>dI T elem p h
 |some _,true,.var p=>(match p with | .pointer (some a)=>some (.pointer (some a))|_=>none)
 |some _,false,x=>x.get T xt h
 |_,_,_=>none
def tc (t:TypeId) (v:Value) (name:String) (h:Heap):Option (FuncId × Value) :=
 (T.xE t name).bind fun m=>(J4 T h m.path.toList t (.val v)).bind fun (xt,x)=>match m.func with
  |some (f,ptr)=>(TU T xt x ptr h).map fun r=>(f,r)
  |none=>none

/-! ### Bytes -/
def Sv:List Value→Option (List UInt8)
 | []=>some []
 | .int .u8 n::l=>(Sv l).map (UInt8.ofNat n.toNat::·)
 |_=>none
def JV (s d:TypeId) (x:Value) (h:Heap):Option Value :=
 match T.desc s,T.desc d,x with
 |some (.slice e),some .string,.slice _ _ _=>(match T.desc e with
  |some (.int .u8)=>(nc x 1 h).bind fun l=>(Sv l).map fun bs=>.string ⟨bs.toArray⟩
  |_=>none)
 |_,_,_=>none
def Ep (d:TypeId) (x:Value) (h:Heap):Option (Value × Heap) :=
 match T.desc d,x with
 |some (.slice e),.string b=>(match T.desc e,T.info e with
  |some (.int .u8),some (1,_,_)=>if b.size > 1152921504606846976∨e≠5 then none else some (.slice (some ⟨h.size,0,none⟩) b.size (G*1+b.size),h.push (.row (b.data.toList.map fun u=>Value.int .u8 u.toNat) e false))
  |_,_=>none)
 |_,_=>none
def JY (t:TypeId):Bool:=match T.desc t with
 |some .string=>true
 |_=>false
def pS (t:TypeId):Bool:=match T.desc t with
 |some (.slice _)=>true
 |_=>false
def we (t:TypeId) (x:Value):Option Value :=
 match T.desc t,x with
 |some (.slice _),.slice _ _ c=>if c < G then some (.int .i64 c) else none
 |_,_=>none

def gX (e:Env) (o:Oper) (h:Heap):Option (Value × Heap) :=
 if o.op.operands.toList.all fun x=>plain (bn e x) then
  match iH P (execOp (bn e) o) with
  |some (.value v)=>if plain v then some (v,h) else none
  |_=>none
 else none

def pU (t u:TypeId):Bool:=u == t || (match T.desc u with|some .string|some (.slice _)=>true|_=>false)

variable (C:Fn→List Value→Heap→Option (Value × Heap))

def iQ (e:Env) (o:Oper) (h:Heap):Option (Value × Heap) :=
 let v:=bn e
 match o.op with
 | .move x=>some (v x,h)
 | .assign x=>some (v x,h)
 | .pick c a b=>match v c with | .bool t=>some (if t then v a else v b,h)|_=>none
 | .alloc t=>(T.info t).map fun (_,_,z)=>newRow t z h
 | .box t x=>some (newRow t (v x).cells.toList h)
 | .build t ps=>(nV T t (ps.toList.map fun (i,x)=>(i,v x))).map fun r=>(r,h)
 | .buildSlice t n ps=>oZ T t n (ps.toList.map fun (i,x)=>(i,v x)) h
 | .load t a=>(dI T t (v a) h).map fun r=>(r,h)
 | .store t a x=>(ic T t (v a) (v x) h).map fun h'=>(undef,h')
 | .nilCheck x=>match v x with
  | .pointer (some a)=>some (.pointer (some a),h)
  | .func (.func f) a b=>some (.func (.func f) a b,h)
  | .iface t a=>some (.iface t a,h)
  |_=>none
 | .binOp op t x y _=>(cw P T op t (v x) (v y)).map fun r=>(r,h)
 | .makeFunc fn first captured=>match fn with | .func f=>some (.func (.func f) (first.map v) (captured.map v),h)|_=>none
 | .makeSlice t l c=>HA T t (v l) (v c) h
 | .slice t x l hi m=>(ki T t (v x) (l.map v) (hi.map v) (m.map v)).map fun r=>(r,h)
 | .fieldAddr s x f=>(dg T s (v x) f).map fun r=>(r,h)
 | .field t x f=>(EF T t (v x) f).map fun r=>(r,h)
 | .indexAddr t x i=>(fW T t (v x) (v i)).map fun r=>(r,h)
 | .extract t i=>match v t with | .tuple vs=>(vs[i]?).map fun r=>(r,h)|_=>none
 | .unOp _ _ _=>gX P e o h
 | .convert s d x=>if pS T s then (JV T s d (v x) h).map fun r=>(r,h) else if pS T d then (if JY T s then Ep T d (v x) h else none) else gX P e o h
 | .index _ _ _=>gX P e o h
 | .call c=>match c.callee with
  | .builtin .append=>match c.argTypes.toList,c.args.toList with
   | [t,u],[s,x]=>if pU T t u then hZ T t (v s) (v x) h else none
   |_,_=>none
  | .builtin .copy=>match c.argTypes.toList,c.args.toList with
   | [t,_],[d,s]=>H9 T t (v d) (v s) h
   |_,_=>none
  | .builtin .clear=>match c.argTypes.toList,c.args.toList with
   | [t],[x]=>(pD T t (v x) h).map fun h'=>(undef,h')
   |_,_=>none
  | .builtin .len=>match c.argTypes.toList,c.args.toList with
   |t::_,[x]=>(bc T t (v x) h).map fun r=>(r,h)
   |_,_=>none
  | .builtin .min=>gX P e o h
  | .builtin .max=>gX P e o h
  | .builtin .delete=>match c.argTypes.toList,c.args.toList with
   |t::_,[m,k]=>(vE T t (v m) (v k) h).map fun h'=>(undef,h')
   |_,_=>none
  | .builtin .cap=>match c.argTypes.toList,c.args.toList with
   |t::_,[x]=>(we T t (v x)).map fun r=>(r,h)
   |_,_=>none
  | .invoke r name=>match v r with
   | .iface t x=>(tc T t x name h).bind fun (f,y)=>C (.func f) (y::c.args.toList.map v) h
   |_=>none
  | .value f=>match v f with
   | .func (.func f) first captured=>C (.func f) (first.toList++c.args.toList.map v++captured.toList) h
   | .func (.yield A) first captured=>if first.isEmpty && captured.isEmpty then C (.yield A) (c.args.toList.map v) h else none
   |_=>none
  |_=>none
 | .makeMap t r=>match r with
  |none=>some (.map (some h.size),h.push (.map [] 0))
  |some x=>(match T.desc t,v x with
   |some (.map _ _),.int _ _=>some (.map (some h.size),h.push (.map [] 0))
   |_,_=>none)
 | .lookup t x k ok=>(xX T t (v x) (v k) ok h).map fun r=>(r,h)
 | .mapUpdate t m k x=>(oB T t (v m) (v k) (v x) h).map fun h'=>(undef,h')
 | .insert t m k x=>(oB T t (v m) (v k) (v x) h).map fun h'=>(undef,h')
 | .mapEntry t m k=>zc T t (v m) (v k) h
 | .entryStore _ m s x=>(uF (v m) (v s) (v x) h).map fun h'=>(undef,h')
 | .makeInterface t x=>(EH T t (v x)).map fun r=>(r,h)
 | .typeAssert x _ t ok=>(HM T (v x) t ok).map fun r=>(r,h)
 |_=>none

def ma (ops:Array Oper) (o:Oper) (e:Env):Bool :=
 match o.guard with
 |none=>true
 |some (j,b)=>match (ops[j]?).bind (·.dst) with
  |some t=>(match e.get t with | .bool c=>c == b|_=>false)
  |none=>false

def put (e:Env) (d:Option Tmp) (v:Value):Env:=match d with
 |some d=>e.set d v
 |none=>e

def sg (ops:Array Oper):List Oper→Env→Heap→Option (Env × Heap)
 | [],e,h=>some (e,h)
 |o::rest,e,h =>
  if ma ops o e then
   match iQ P T C e o h with
   |some (v,h')=>sg ops rest (put e o.dst v) h'
   |none=>none
  else sg ops rest (put e o.dst undef) h

inductive Ex where
 |normal
 |exit (id:Nat)
 |ret

def iter (f:Env→Heap→Option (Ex × Env × Heap)):Nat→Env→Heap→Option (Ex × Env × Heap)
 |0,_,_=>none
 |n+1,e,h=>match f e h with
  |some (.normal,e',h')=>iter f n e' h'
  |r=>r

variable (D:Array Oper→Env→Heap→Option (Env × Heap))

def RP (rd:Option Nat) (h:Heap):Bool:=match rd with
 |none=>true
 |some A=>(match h.get A with|some (.loop ..)=>true|_=>false)
def yX (l:Nat) (e:Env) (h:Heap):Option (Ex × Env × Heap) :=
 match h.get l with
 |some (.loop env ps assign body st dN)=>(match st with
  | .busy=>none
  |_=>(match dN with
   |none=>some (.normal,e,h.set l (.loop env ps assign body .exhausted dN))
   |some (.exit id)=>some (.exit id,e,h.set l (.loop env ps assign body .exhausted dN))
   |some .ret=>some (.ret,e,h.set l (.loop env ps assign body .exhausted dN))
   |_=>none))
 |_=>none
def Sd (f:FuncId):Bool:=match T.fn f with
 |some fn=>(match fn.body with|some _=>true|none=>false)
 |none=>false
def Kp (rd:Option Nat) (g:Value) (ps:List Tmp) (assign body:Code) (e:Env) (h:Heap):Option (Ex × Env × Heap) :=
 match g with
 | .func (.func f) first captured =>
  if RP rd h && Sd T f then
   match C (.func f) (first.toList++[.func (.yield h.size) #[] #[]]++captured.toList) (h.push (.loop e ps assign body .ready none)) with
   |some (_,h2)=>yX h.size e h2
   |none=>none
  else none
 |_=>none

def dQ (rd:Option Nat) (fuel:Nat):Code→Env→Heap→Option (Ex × Env × Heap)
 | .skip,e,h=>some (.normal,e,h)
 | .region _ ops d,e,h=>(if d then D ops e h else sg P T C ops ops.toList e h).map fun (e',h')=>(.normal,e',h')
 | .seq a b,e,h=>match dQ rd fuel a e h with
  |some (.normal,e',h')=>dQ rd fuel b e' h'
  |r=>r
 | .cond c a b,e,h=>match bn e c with
  | .bool true=>dQ rd fuel a e h
  | .bool false=>dQ rd fuel b e h
  |_=>none
 | .block id c,e,h=>match dQ rd fuel c e h with
  |some (.exit i,e',h')=>if i=id then some (.normal,e',h') else some (.exit i,e',h')
  |r=>r
 | .loop c,e,h=>iter (dQ rd fuel c) fuel e h
 | .scope c,e,h=>dQ rd fuel c e h
 | .rangeFunc g ps assign body,e,h=>Kp T C rd (bn e g) ps.toList assign body e h
 | .exit id,e,h=>some (.exit id,e,h)
 | .ret,e,h=>some (.ret,e,h)
 | .label _,e,h=>some (.normal,e,h)
 |_,_,_=>none

def si (e:Env) (h:Heap):ResultVar→Option Value
 | .tmp t=>some (e.get t)
 | .cell a t=>dI T t (e.get a) h

def mj (fn:Func) (e:Env) (h:Heap):Option Value :=
 match fn.results.toList with
 | [r]=>si T e h r
 |rs=>(rs.mapM (si T e h)).map fun vs=>.tuple vs.toArray
end

/-! ### What the text of a function must be -/
def RD (gs:List Nat):Operand→Bool
 | .const v=>plain v
 | .global g=>gs.contains g
 |_=>true
def Pm (gs:List Nat) (o:Oper):Bool:=o.op.operands.toList.all (RD gs)
def rr (gs:List Nat):Code→Bool
 | .region _ ops _=>ops.toList.all (Pm gs)
 | .seq a b=>rr gs a && rr gs b
 | .cond c a b=>RD gs c && rr gs a && rr gs b
 | .block _ c=>rr gs c
 | .loop c=>rr gs c
 | .scope c=>rr gs c
 | .rangeFunc g _ a b=>RD gs g && rr gs a && rr gs b
 |_=>true
end Go.Am
namespace Go.Am
open Go.RowKit

/-! ### The plain heap -/
theorem Tr.get_nil (i:Nat):Tr.get .nil i=none:=by cases i <;> rfl

theorem Tr.aD:∀ (n:Nat) (t:Tr) (i j:Nat) (o:bh),i < n→(Tr.set n t i o).get j=if j=i then some o else t.get j
 |0,_,_,_,_,h=>by omega
 |n+1,t,i,j,o,h=>by
  cases t with
  |nil =>
   cases i with
   |zero=>cases j with
    |zero=>simp [Tr.set,Tr.get]
    |succ j=>simp [Tr.set,Tr.get]
   |succ i =>
    have hi:i / 2 < n:=by omega
    by_cases he:i % 2=0
    ·cases j with
     |zero=>simp [Tr.set,Tr.get,he]
     |succ j =>
      by_cases hj:j % 2=0
      ·simp only [Tr.set,Tr.get,he,hj,beq_self_eq_true,if_true,Tr.aD n .nil (i / 2) (j / 2) o hi]
       by_cases e:j=i
       ·subst e;simp
       ·rw [if_neg (by omega),if_neg (by omega)]
      ·have ra:(j % 2 == 0)=false:=by simpa using hj
       simp only [Tr.set,Tr.get,he,ra,beq_self_eq_true,if_true,Bool.false_eq_true,if_false]
       rw [if_neg (by intro e;apply hj;have:j=i:=by omega
                      subst this;exact he)]
    ·have yp:(i % 2 == 0)=false:=by simpa using he
     cases j with
     |zero=>simp [Tr.set,Tr.get,yp]
     |succ j =>
      by_cases hj:j % 2=0
      ·simp only [Tr.set,Tr.get,yp,hj,beq_self_eq_true,if_true,Bool.false_eq_true,if_false]
       rw [if_neg (by intro e;apply he;have:j=i:=by omega
                      subst this;exact hj)]
      ·have ra:(j % 2 == 0)=false:=by simpa using hj
       simp only [Tr.set,Tr.get,yp,ra,Bool.false_eq_true,if_false,Tr.aD n .nil (i / 2) (j / 2) o hi]
       by_cases e:j=i
       ·subst e;simp
       ·rw [if_neg (by omega),if_neg (by omega)]
  |node v l r =>
   cases i with
   |zero=>cases j with
    |zero=>simp [Tr.set,Tr.get]
    |succ j=>simp [Tr.set,Tr.get]
   |succ i =>
    have hi:i / 2 < n:=by omega
    by_cases he:i % 2=0
    ·cases j with
     |zero=>simp [Tr.set,Tr.get,he]
     |succ j =>
      by_cases hj:j % 2=0
      ·simp only [Tr.set,Tr.get,he,hj,beq_self_eq_true,if_true,Tr.aD n l (i / 2) (j / 2) o hi]
       by_cases e:j=i
       ·subst e;simp
       ·rw [if_neg (by omega),if_neg (by omega)]
      ·have ra:(j % 2 == 0)=false:=by simpa using hj
       simp only [Tr.set,Tr.get,he,ra,beq_self_eq_true,if_true,Bool.false_eq_true,if_false]
       rw [if_neg (by intro e;apply hj;have:j=i:=by omega
                      subst this;exact he)]
    ·have yp:(i % 2 == 0)=false:=by simpa using he
     cases j with
     |zero=>simp [Tr.set,Tr.get,yp]
     |succ j =>
      by_cases hj:j % 2=0
      ·simp only [Tr.set,Tr.get,yp,hj,beq_self_eq_true,if_true,Bool.false_eq_true,if_false]
       rw [if_neg (by intro e;apply he;have:j=i:=by omega
                      subst this;exact hj)]
      ·have ra:(j % 2 == 0)=false:=by simpa using hj
       simp only [Tr.set,Tr.get,yp,ra,Bool.false_eq_true,if_false,Tr.aD n r (i / 2) (j / 2) o hi]
       by_cases e:j=i
       ·subst e;simp
       ·rw [if_neg (by omega),if_neg (by omega)]

theorem Heap.size_push (h:Heap) (b:bh):(h.push b).size=h.size+1:=rfl
theorem Heap.size_set (h:Heap) (A:Nat) (b:bh):(h.set A b).size=h.size:=rfl
theorem Heap.de (h:Heap) (b:bh):(h.push b).low=h.low:=rfl
theorem Heap.bW (h:Heap) (A:Nat) (b:bh):(h.set A b).low=min h.low A:=rfl
theorem Heap.bu (h:Heap) (b:bh) (j:Nat):(h.push b).get j=if j=h.size then some b else h.get j:=by
 simp only [Heap.get,Heap.push,Tr.aD _ _ _ _ _ (Nat.lt_succ_self _)]
 by_cases e:j=h.size
 ·subst e;simp
 ·by_cases hl:j < h.size
  ·rw [if_pos (by omega),if_neg e,if_pos hl,if_neg e]
  ·rw [if_neg (by omega),if_neg e,if_neg hl]
theorem Heap.aD (h:Heap) (A:Nat) (b:bh) (j:Nat) (hA:A < h.size):(h.set A b).get j=if j=A then some b else h.get j:=by
 simp only [Heap.get,Heap.set,Tr.aD _ _ _ _ _ (Nat.lt_succ_self _)]
 by_cases e:j=A
 ·subst e;simp [hA]
 ·by_cases hl:j < h.size
  ·rw [if_pos hl,if_neg e,if_pos hl,if_neg e]
  ·rw [if_neg hl,if_neg e,if_neg hl]
theorem Heap.bD {h:Heap} {A:Nat} {b:bh} (hb:h.get A=some b):A < h.size:=by
 unfold Heap.get at hb
 split at hb
 ·assumption
 ·cases hb

theorem Env.length_set:∀ (e:Env) (i:Nat) (v:Value),(Env.set e i v).length=e.length
 | [],_,_=>rfl
 |_::_,0,_=>rfl
 |x::r,n+1,v=>by simp [Env.set,Env.length_set r n v]
theorem Env.aD:∀ (e:Env) (i j:Nat) (v:Value),(Env.set e i v).get j=if j=i∧i < e.length then v else e.get j
 | [],_,_,_=>by simp [Env.set,Env.get]
 |x::r,0,j,v=>by cases j <;> simp [Env.set,Env.get]
 |x::r,i+1,j,v=>by
  cases j with
  |zero=>simp [Env.set,Env.get]
  |succ j=>simp [Env.set,Env.get,Env.aD r i j v]
theorem Env.n8:∀ (e:Env) (i:Nat),e.length≤i→e.get i=undef
 | [],_,_=>by simp [Env.get]
 |_::r,i+1,h=>by simp only [Env.get];exact Env.n8 r i (by simpa using h)
 |_::_,0,h=>by simp at h
theorem Env.get_eq:∀ (e:Env) (i:Nat),e.get i=(e[i]?).getD undef
 | [],_=>by simp [Env.get]
 |_::_,0=>by simp [Env.get]
 |_::r,i+1=>by simp [Env.get,Env.get_eq r i]

/-! ### Values -/
structure Loc where
 b:Nat
 s:Nat
 uA:Nat

abbrev cE:=Nat→Option Loc

inductive VR (ρ:cE):Value→Value→Prop where
 |bool (b:Bool):VR ρ (.bool b) (.bool b)
 |int (k:IntKind) (n:Int):VR ρ (.int k n) (.int k n)
 |string (s:ByteArray):VR ρ (.string s) (.string s)
 |po:VR ρ (.pointer none) (.pointer none)
 |ptr {A o:Nat} {L:Loc} (h:ρ A=some L):VR ρ (.pointer (some ⟨A,o,none⟩)) (.pointer (some ⟨L.b,L.s+o,none⟩))
 |dt:VR ρ (.slice none 0 0) (.slice none 0 0)
 |slice {A o n c:Nat} {L:Loc} {ad:Addr} (h:ρ A=some L) (hc:c < G) (hn:n≤c) (ea:c≠0→ad=⟨L.b,L.s+o,none⟩):VR ρ (.slice (some ⟨A,o,none⟩) n c) (.slice (some ad) n c)
 |ck {A o n c c':Nat} {L:Loc} {ad:Addr} (h:ρ A=some L) (hc:G≤c) (cV:c % G≤c') (hn:n≤c % G) (hk:0 < c / G)
  (hm:c'≤maxLen) (ea:c'≠0→ad=⟨L.b,L.s+o,none⟩∧L.s+o+c'*(c / G)≤L.uA):VR ρ (.slice (some ⟨A,o,none⟩) n c) (.slice (some ad) n c')
 |pk:VR ρ (.map none) (.map none)
 |nilFunc:VR ρ .nilFunc .nilFunc
 |map {A:Nat} {L:Loc} (h:ρ A=some L):VR ρ (.map (some A)) (.map (some L.b))
 |yield {A:Nat} {L:Loc} (h:ρ A=some L):VR ρ (.func (.yield A) #[] #[]) (.func (.yield L.b) #[] #[])
 |func (fn:FuncId) {f g c d:Array Value} (hf:f.size=g.size) (hc:c.size=d.size) (h1:∀ (i:Nat) (x y:Value),f[i]? = some x→g[i]? = some y→VR ρ x y)
  (h2:∀ (i:Nat) (x y:Value),c[i]? = some x→d[i]? = some y→VR ρ x y):VR ρ (.func (.func fn) f c) (.func (.func fn) g d)
 |nilIface:VR ρ .nilIface .nilIface
 |iface (t:TypeId) {x y:Value} (h:VR ρ x y):VR ρ (.iface t x) (.iface t y)
 |agg {c d:Array Value} (hc:c.size=d.size) (h:∀ (i:Nat) (x y:Value),c[i]? = some x→d[i]? = some y→VR ρ x y):VR ρ (.agg c) (.agg d)
 |tuple {c d:Array Value} (hc:c.size=d.size) (h:∀ (i:Nat) (x y:Value),c[i]? = some x→d[i]? = some y→VR ρ x y):VR ρ (.tuple c) (.tuple d)

theorem VR.mono {ρ ρ':cE} (hg:∀ A L,ρ A=some L→ρ' A=some L) {v u:Value} (h:VR ρ v u):VR ρ' v u:=by
 induction h with
 |bool b=>exact .bool b
 |int k n=>exact .int k n
 |string s=>exact .string s
 |po=>exact .po
 |ptr h=>exact .ptr (hg _ _ h)
 |dt=>exact .dt
 |slice h hc hn ea=>exact .slice (hg _ _ h) hc hn ea
 |ck h hc cV hn hk hm ea=>exact .ck (hg _ _ h) hc cV hn hk hm ea
 |pk=>exact .pk
 |map h=>exact .map (hg _ _ h)
 |yield h=>exact .yield (hg _ _ h)
 |nilFunc=>exact .nilFunc
 |func fn hf hc h1 h2 i1 i2=>exact .func fn hf hc i1 i2
 |nilIface=>exact .nilIface
 |iface t h ih=>exact .iface t ih
 |agg hc h ih=>exact .agg hc ih
 |tuple hc h ih=>exact .tuple hc ih

theorem VR.undef (ρ:cE):VR ρ undef undef:=.tuple rfl (by intro i x y hx;simp at hx)

theorem VR.lp (ρ:cE) {v:Value} (h:lZ v=true):VR ρ v v:=by
 cases v with
 |bool b=>exact .bool b
 |int k n=>exact .int k n
 |string s=>exact .string s
 |pointer a=>cases a with
  |none=>exact .po
  |some a=>simp [lZ] at h
 |slice a n c=>cases a with
  |none =>
   simp [lZ] at h
   obtain ⟨rfl,rfl⟩:=h
   exact .dt
  |some a=>simp [lZ] at h
 |map r=>cases r with
  |none=>exact .pk
  |some r=>simp [lZ] at h
 |func fn f c =>
  cases fn with
  |func fn =>
   simp [lZ] at h
   obtain ⟨rfl,rfl⟩:=h
   exact .func fn rfl rfl (by intro i x y hx;simp at hx) (by intro i x y hx;simp at hx)
  |_=>simp [lZ] at h
 |nilFunc=>exact .nilFunc
 |nilIface=>exact .nilIface
 |_=>simp [lZ] at h

theorem VR.n7 {ρ:cE} {v u:Value} (hv:VR ρ v u) (h:lZ v=true):u=v:=by
 cases hv with
 |func fn hf hc h1 h2 =>
  simp [lZ] at h
  obtain ⟨rfl,rfl⟩:=h
  have e1:∀ (a:Array Value),(#[]:Array Value).size=a.size→a=#[]:=fun a ha=>Array.eq_empty_of_size_eq_zero (by simpa using ha.symm)
  rw [e1 _ hf,e1 _ hc]
 |_=>first|rfl|simp [lZ] at h

theorem VR.dr (ρ:cE) {v:Value} (h:plain v=true):VR ρ v v:=by
 cases v with
 |agg cs =>
  refine .agg rfl fun i x y hx hy=>?_
  have e:x=y:=by rw [hx] at hy;exact Option.some.inj hy
  subst e
  simp only [plain,List.all_eq_true] at h
  exact .lp ρ (h x (by simpa using Array.mem_of_getElem? hx))
 |_=>exact .lp ρ h

theorem VR.bM {ρ:cE} {v u:Value} (hv:VR ρ v u) (h:plain v=true):u=v:=by
 cases hv with
 |agg hc hh =>
  rename_i c d
  congr 1
  refine Array.ext hc.symm fun i h1 h2=>?_
  simp only [plain,List.all_eq_true] at h
  have hx:c[i]? = some c[i]:=Array.getElem?_eq_getElem h2
  exact (hh i _ _ hx (Array.getElem?_eq_getElem h1)).n7 (h _ (by simp))
 |tuple hc hh=>simp [plain,lZ] at h
 |func fn hf hc h1 h2=>exact (VR.func fn hf hc h1 h2).n7 h
 |_=>first|rfl|(simp [plain,lZ] at h;done)

theorem VR.one {ρ:cE} {v u:Value} (hv:VR ρ v u) (h:one v=true):u.oneCell'=true:=by
 cases hv <;> first|rfl|simp [Am.one] at h

def cD (ρ:cE) (l m:List Value):Prop:=l.length=m.length∧∀ (i:Nat) (x y:Value),l[i]? = some x→m[i]? = some y→VR ρ x y

theorem cD.nil (ρ:cE):cD ρ [] []:=⟨rfl,by intro i x y hx;simp at hx⟩
theorem cD.cons {ρ:cE} {x y:Value} {l m:List Value} (h:VR ρ x y) (hl:cD ρ l m):cD ρ (x::l) (y::m) :=
 ⟨by simp [hl.1],fun i a b ha hb=>by
  cases i with
  |zero=>simp at ha hb;subst ha hb;exact h
  |succ i=>exact hl.2 i a b (by simpa using ha) (by simpa using hb)⟩
theorem cD.of_cons {ρ:cE} {x:Value} {l m:List Value} (h:cD ρ (x::l) m):∃ y m',m=y::m'∧VR ρ x y∧cD ρ l m':=by
 cases m with
 |nil=>have:=h.1;simp at this
 |cons y m =>
  exact ⟨y,m,rfl,h.2 0 x y rfl rfl,by have:=h.1;simpa using this,fun i a b ha hb=>h.2 (i+1) a b (by simpa using ha) (by simpa using hb)⟩
theorem cD.of_nil {ρ:cE} {m:List Value} (h:cD ρ [] m):m=[]:=by
 have:=h.1
 simp at this
 exact List.eq_nil_of_length_eq_zero this.symm
theorem cD.mono {ρ ρ':cE} (hg:∀ A L,ρ A=some L→ρ' A=some L) {l m:List Value} (h:cD ρ l m):cD ρ' l m:=⟨h.1,fun i x y hx hy=>(h.2 i x y hx hy).mono hg⟩
theorem cD.append {ρ:cE} {l m l' m':List Value} (h:cD ρ l m) (h':cD ρ l' m'):cD ρ (l++l') (m++m'):=by
 induction l generalizing m with
 |nil=>rw [h.of_nil];exact h'
 |cons x l ih =>
  obtain ⟨y,m1,rfl,hx,hl⟩:=h.of_cons
  exact .cons hx (ih hl)
theorem cD.take {ρ:cE} {l m:List Value} (h:cD ρ l m) (n:Nat):cD ρ (l.take n) (m.take n):=by
 refine ⟨by simp [h.1],fun i x y hx hy=>?_⟩
 rw [List.getElem?_take] at hx hy
 split at hx
 ·rename_i hi;rw [if_pos hi] at hy;exact h.2 i x y hx hy
 ·cases hx
theorem cD.drop {ρ:cE} {l m:List Value} (h:cD ρ l m) (n:Nat):cD ρ (l.drop n) (m.drop n) :=
 ⟨by simp [h.1],fun i x y hx hy=>h.2 (n+i) x y (by simpa using hx) (by simpa using hy)⟩
theorem cD.az {ρ:cE} {l m l' m':List Value} (h:cD ρ l m) (o:Nat) (h':cD ρ l' m'):cD ρ (az l o l') (az m o m'):=by
 unfold Am.az
 rw [← h'.1]
 exact ((h.take o).append h').append (h.drop _)
theorem cD.cut {ρ:cE} {l m c:List Value} (h:cD ρ l m) {o n:Nat} (hc:cut l o n=some c):∃ d,cut m o n=some d∧cD ρ c d:=by
 unfold Am.cut at hc ⊢
 split at hc
 ·rename_i hl
  rw [if_pos (by rw [← h.1];exact hl)]
  cases hc
  exact ⟨_,rfl,(h.drop o).take n⟩
 ·cases hc
theorem cD.get {ρ:cE} {l m:List Value} (h:cD ρ l m) {i:Nat} {x:Value} (hx:l[i]? = some x):∃ y,m[i]? = some y∧VR ρ x y:=by
 have hi:i < l.length:=(List.getElem?_eq_some_iff.1 hx).1
 have hy:m[i]? = some (m[i]'(by rw [← h.1];exact hi)):=List.getElem?_eq_getElem _
 exact ⟨_,hy,h.2 i x _ hx hy⟩
theorem cD.plain (ρ:cE) {l:List Value} (h:l.all lZ=true):cD ρ l l:=by
 refine ⟨rfl,fun i x y hx hy=>?_⟩
 rw [hx] at hy
 cases hy
 exact .lp ρ (List.all_eq_true.1 h x (List.mem_of_getElem? hx))
theorem cD.one {ρ:cE} {l m:List Value} (h:cD ρ l m) (h1:l.all one=true):∀ v∈m,v.oneCell'=true:=by
 intro v hv
 obtain ⟨i,hi⟩:=List.getElem?_of_mem hv
 have hl:i < l.length:=by rw [h.1];exact (List.getElem?_eq_some_iff.1 hi).1
 exact (h.2 i _ v (List.getElem?_eq_getElem hl) hi).one (List.all_eq_true.1 h1 _ (List.getElem_mem hl))
theorem cD.toArray {ρ:cE} {l m:List Value} (h:cD ρ l m):VR ρ (.agg l.toArray) (.agg m.toArray) :=
 .agg (by simp [h.1]) (fun i x y hx hy=>h.2 i x y (by simpa using hx) (by simpa using hy))
theorem cD.jm {ρ:cE} {l m:List Value} (h:cD ρ l m):VR ρ (.tuple l.toArray) (.tuple m.toArray) :=
 .tuple (by simp [h.1]) (fun i x y hx hy=>h.2 i x y (by simpa using hx) (by simpa using hy))
theorem VR.Fb {ρ:cE} {c d:Array Value} (h:VR ρ (.agg c) (.agg d)):cD ρ c.toList d.toList:=by
 cases h with
 |agg hc hh=>exact ⟨by simpa using hc,fun i x y hx hy=>hh i x y (by simpa using hx) (by simpa using hy)⟩
theorem VR.cells {ρ:cE} {v u:Value} (h:VR ρ v u):cD ρ v.cells.toList u.cells.toList:=by
 cases h with
 |agg hc hh=>exact (VR.agg hc hh).Fb
 |_=>exact .cons (by first|exact .bool _|exact .int _ _|exact .string _|exact .po|exact .ptr ‹_› | exact .dt|exact .slice ‹_› ‹_› ‹_› ‹_› | exact .ck ‹_› ‹_› ‹_› ‹_› ‹_› ‹_› ‹_› | exact .pk|exact .map ‹_› | exact .yield ‹_› | exact .nilFunc|exact .func _ ‹_› ‹_› ‹_› ‹_› | exact .nilIface|exact .iface _ ‹_› | exact .tuple ‹_› ‹_›) (.nil ρ)

def cC (ρ:cE) (e:Env) (tmps:Array Value):Prop:=e.length=tmps.size∧∀ i,VR ρ (e.get i) (tmps.getD i undef)
theorem cC.mono {ρ ρ':cE} {e:Env} {tmps:Array Value} (he:cC ρ e tmps) (hg:∀ A L,ρ A=some L→ρ' A=some L):cC ρ' e tmps:=⟨he.1,fun i=>(he.2 i).mono hg⟩
def mn (ρ:cE) (l m:List MapEntry):Prop:=l.length=m.length∧∀ (i:Nat) (x y:MapEntry),l[i]? = some x→m[i]? = some y→VR ρ x.key y.key∧VR ρ x.val y.val∧x.born=y.born∧plain x.key=true
theorem mn.mono {ρ ρ':cE} (hg:∀ A L,ρ A=some L→ρ' A=some L) {l m:List MapEntry} (h:mn ρ l m):mn ρ' l m :=
 ⟨h.1,fun i x y hx hy=>⟨(h.2 i x y hx hy).1.mono hg,(h.2 i x y hx hy).2.1.mono hg,(h.2 i x y hx hy).2.2⟩⟩

/-! ### What the text of a function must be, at the places that are known -/
def da (gs:List Nat) (ρ:cE):Prop:=∀ g∈gs,∃ t,ρ g=some ⟨g,0,t⟩
def sy (ρ:cE):Operand→Prop
 | .const v=>plain v=true
 | .global g=>∃ t,ρ g=some ⟨g,0,t⟩
 |_=>True
def kZ (ρ:cE) (o:Oper):Prop:=∀ x∈o.op.operands.toList,sy ρ x
def cO (ρ:cE):Code→Prop
 | .region _ ops _=>∀ o∈ops.toList,kZ ρ o
 | .seq a b=>cO ρ a∧cO ρ b
 | .cond c a b=>sy ρ c∧cO ρ a∧cO ρ b
 | .block _ c=>cO ρ c
 | .loop c=>cO ρ c
 | .scope c=>cO ρ c
 | .rangeFunc g _ a b=>sy ρ g∧cO ρ a∧cO ρ b
 |_=>True
section
variable {ρ ρ':cE} (hg:∀ A L,ρ A=some L→ρ' A=some L)
include hg
theorem da.mono {gs:List Nat} (h:da gs ρ):da gs ρ':=fun g hh=>let ⟨t,ht⟩:=h g hh;⟨t,hg _ _ ht⟩
theorem sy.mono {x:Operand} (h:sy ρ x):sy ρ' x:=by
 cases x with
 |global g=>exact let ⟨t,ht⟩:=h;⟨t,hg _ _ ht⟩
 |_=>exact h
theorem kZ.mono {o:Oper} (h:kZ ρ o):kZ ρ' o:=fun x hx=>(h x hx).mono hg
theorem cO.mono:∀ {c:Code},cO ρ c→cO ρ' c:=by
 intro c
 induction c with
 |region id ops d=>exact fun h o ho=>(h o ho).mono hg
 |seq a b iN iO=>exact fun h=>⟨iN h.1,iO h.2⟩
 |cond c a b iN iO=>exact fun h=>⟨h.1.mono hg,iN h.2.1,iO h.2.2⟩
 |block id c ih=>exact fun h=>ih h
 |loop c ih=>exact fun h=>ih h
 |scope c ih=>exact fun h=>ih h
 |rangeFunc g ps a b iN iO=>exact fun h=>⟨h.1.mono hg,iN h.2.1,iO h.2.2⟩
 |_=>exact fun _=>trivial
end
theorem sy.of {gs:List Nat} {ρ:cE} (hG:da gs ρ) {x:Operand} (h:RD gs x=true):sy ρ x:=by
 cases x with
 |global g=>exact hG g (by simpa [RD] using h)
 |const v=>exact h
 |_=>trivial
theorem kZ.of {gs:List Nat} {ρ:cE} (hG:da gs ρ) {o:Oper} (h:Pm gs o=true):kZ ρ o:=fun x hx=>.of hG (List.all_eq_true.1 h x hx)
theorem cO.of {gs:List Nat} {ρ:cE} (hG:da gs ρ):∀ {c:Code},rr gs c=true→cO ρ c:=by
 intro c
 induction c with
 |region id ops d=>exact fun h o ho=>.of hG (List.all_eq_true.1 h o ho)
 |seq a b iN iO=>exact fun h=>by simp only [rr,Bool.and_eq_true] at h;exact ⟨iN h.1,iO h.2⟩
 |cond c a b iN iO=>exact fun h=>by simp only [rr,Bool.and_eq_true] at h;exact ⟨.of hG h.1.1,iN h.1.2,iO h.2⟩
 |block id c ih=>exact fun h=>ih h
 |loop c ih=>exact fun h=>ih h
 |scope c ih=>exact fun h=>ih h
 |rangeFunc g ps a b iN iO=>exact fun h=>by simp only [rr,Bool.and_eq_true] at h;exact ⟨.of hG h.1.1,iN h.1.2,iO h.2⟩
 |_=>exact fun _=>trivial

/-! ### Heaps -/
def live (h:Heap) (A:Nat):Prop:=∃ b,h.get A=some b∧b≠.dead
def mT (h:Heap) (A:Nat):Prop:=∃ cs e,h.get A=some (.row cs e true)

def vz:TypeId:=1099511627776
def vA:List Value:=Lib.asciiSpaceTab.map fun z=>Value.int .u8 z
def SG:TypeId:=5
structure nz (e:TypeId) (n:Nat) (fz:Nat × Nat):Prop where
 BP:∀ j,j < n→¬ (fz.1≤j∧j < fz.2)
 ZS:e=SG∨¬ (fz.1≤n∧n < fz.2)
theorem nz.zero (e:TypeId) (n:Nat):nz e n (0,0):=⟨fun _ _ h=>by have:=h.2;simp at this,.inr fun h=>by have:=h.2;simp at this⟩
def pX (ρ:cE) (w:World) (L:Loc):Option bh→Prop
 |some (.row cs e true)=>(L.b < w.heap.size∧(e=vz→cs=vA))∧∀ (i:Nat) (v:Value),cs[i]? = some v→∃ u,w.cell? ⟨L.b,L.s+i,none⟩=some u∧VR ρ v u
 |some (.row cs e false)=>∃ (cur:Array Value) (fz:Nat × Nat),w.heap[L.b]? = some (.cells cur e fz)∧nz e cur.size fz∧cur.size=L.uA∧∃ m,cut cur.toList L.s cs.length=some m∧cD ρ cs m
 |some (.map es clock)=>∃ ces:Array MapEntry,w.heap[L.b]? = some (.map ces clock)∧mn ρ es ces.toList
 |some (.loop env ps assign body st dN)=>∃ l:Loop,w.heap[L.b]? = some (.loop l)∧l.state=st∧l.pending=dN∧l.params.toList=ps∧l.assign=assign∧l.body=body∧cC ρ env l.tmps∧cO ρ assign∧cO ρ body
 |some .dead=>L.b < w.heap.size
 |none=>L.b < w.heap.size

theorem pX.keep {ρ ρ':cE} {w w':World} {L:Loc} {b:Option bh} (hb:pX ρ w L b) (hg:∀ A L,ρ A=some L→ρ' A=some L) (dz:w.heap.size≤w'.heap.size)
 (hk:(∃ x,b=some x∧x≠.dead)→w'.heap[L.b]? = w.heap[L.b]?):pX ρ' w' L b:=by
 cases b with
 |none=>exact Nat.lt_of_lt_of_le hb dz
 |some b =>
  cases b with
  |dead=>exact Nat.lt_of_lt_of_le hb dz
  |map es clock =>
   obtain ⟨ces,hc,he⟩:=hb
   exact ⟨ces,(hk ⟨_,rfl,by simp⟩).trans hc,he.mono hg⟩
  |loop env ps assign body st dN =>
   obtain ⟨l,hc,h1,h2,h3,h4,h5,h6,h7⟩:=hb
   exact ⟨l,(hk ⟨_,rfl,by simp⟩).trans hc,h1,h2,h3,h4,h5,h6.mono hg,h7.1.mono hg,h7.2.mono hg⟩
  |row cs e ro =>
   have vk:=hk ⟨_,rfl,by simp⟩
   cases ro with
   |true =>
    refine ⟨⟨Nat.lt_of_lt_of_le hb.1.1 dz,hb.1.2⟩,fun i v hi=>?_⟩
    obtain ⟨u,hu,lT⟩:=hb.2 i v hi
    refine ⟨u,?_,lT.mono hg⟩
    rw [← hu]
    simp only [World.cell?,vk]
   |false =>
    obtain ⟨cur,fz,hc,np,ht,m,hm,hv⟩:=hb
    exact ⟨cur,fz,vk.trans hc,np,ht,m,hm,hv.mono hg⟩

structure bP (ρ:cE) (h:Heap) (w:World):Prop where
 fG:∀ A L,ρ A=some L→pX ρ w L (h.get A)
 inj:∀ A A' L L',ρ A=some L→ρ A'=some L'→A≠A'→L.b=L'.b→¬ live h A∨¬ live h A'∨(mT h A∧mT h A')

theorem bP.lt {ρ:cE} {h:Heap} {w:World} (hs:bP ρ h w) {A:Nat} {L:Loc} (hA:ρ A=some L):L.b < w.heap.size:=by
 have hb:=hs.fG A L hA
 cases hg:h.get A with
 |none=>rw [hg] at hb;exact hb
 |some b =>
  rw [hg] at hb
  cases b with
  |dead=>exact hb
  |map es clock =>
   obtain ⟨ces,hc,_⟩:=hb
   exact (Array.getElem?_eq_some_iff.1 hc).1
  |loop env ps assign body st dN =>
   obtain ⟨l,hc,_⟩:=hb
   exact (Array.getElem?_eq_some_iff.1 hc).1
  |row cs e ro =>
   cases ro with
   |true=>exact hb.1.1
   |false =>
    obtain ⟨cur,fz,hc,_⟩:=hb
    exact (Array.getElem?_eq_some_iff.1 hc).1

def fI (ρ:cE) (h h':Heap):Prop:=∀ A,h.size≤A→A < h'.size→ρ A=none

structure Fr (ρ ρ':cE) (h h':Heap) (w w':World):Prop where
 grow:∀ A L,ρ A=some L→ρ' A=some L
 fresh:∀ A L,ρ' A=some L→ρ A=none→h.size≤A∧A < h'.size∧(w.heap.size≤L.b∨∃ A0 L0,ρ A0=some L0∧L0.b=L.b∧h'.low≤A0∧A0 < h'.size)
 os:w'.os=w.os
 tape:w'.tape=w.tape
 output:w'.output=w.output
 size:w.heap.size≤w'.heap.size
 iF:h.size≤h'.size
 low:h'.low≤h.low
 keep:∀ b,b < w.heap.size→(∀ A L,ρ A=some L→L.b=b→A < h'.low∨h'.size≤A)→w'.heap[b]? = w.heap[b]?
 sB:∀ A,A < h.size→A < h'.low→h'.get A=h.get A

theorem Fr.refl (ρ:cE) (h:Heap) (w:World):Fr ρ ρ h h w w :=
 ⟨fun _ _ h=>h,fun A L h1 h2=>(by rw [h1] at h2;cases h2),rfl,rfl,rfl,Nat.le_refl _,Nat.le_refl _,Nat.le_refl _,fun _ _ _=>rfl,fun _ _ _=>rfl⟩

theorem Fr.trans {ρ ρ' ρ'':cE} {h h' Wp:Heap} {w w' Zc:World} (f:Fr ρ ρ' h h' w w') (g:Fr ρ' ρ'' h' Wp w' Zc):Fr ρ ρ'' h Wp w Zc:=by
 refine ⟨fun A L hA=>g.grow A L (f.grow A L hA),?_,g.os.trans f.os,g.tape.trans f.tape,g.output.trans f.output,Nat.le_trans f.size g.size,Nat.le_trans f.iF g.iF,Nat.le_trans g.low f.low,?_,?_⟩
 ·intro A L hA hn
  cases hρ:ρ' A with
  |some L1 =>
   have e:L1=L:=by have:=g.grow A L1 hρ;rw [hA] at this;exact (Option.some.inj this).symm
   subst e
   obtain ⟨h1,bH,h2⟩:=f.fresh A L1 hρ hn
   refine ⟨h1,Nat.lt_of_lt_of_le bH g.iF,?_⟩
   rcases h2 with h2|⟨A0,L0,h0,he,hl,tU⟩
   ·exact .inl h2
   ·exact .inr ⟨A0,L0,h0,he,Nat.le_trans g.low hl,Nat.lt_of_lt_of_le tU g.iF⟩
  |none =>
   obtain ⟨h1,bH,h2⟩:=g.fresh A L hA hρ
   refine ⟨Nat.le_trans f.iF h1,bH,?_⟩
   rcases h2 with h2|⟨A0,L0,h0,he,hl,tU⟩
   ·exact .inl (Nat.le_trans f.size h2)
   ·cases G5:ρ A0 with
    |some L1 =>
     have e:L1=L0:=by have:=f.grow A0 L1 G5;rw [h0] at this;exact (Option.some.inj this).symm
     subst e
     exact .inr ⟨A0,L1,G5,he,hl,tU⟩
    |none =>
     rcases (f.fresh A0 L0 h0 G5).2.2 with h3|⟨A1,L1,h3,he3,NS,acs⟩
     ·exact .inl (by omega)
     ·exact .inr ⟨A1,L1,h3,he3.trans he,Nat.le_trans g.low NS,Nat.lt_of_lt_of_le acs g.iF⟩
 ·intro b hb aB
  have Nh:∀ A L,ρ A=some L→L.b=b→A < h'.low∨h'.size≤A:=fun A L hA hL=>by
   have h1:=aB A L hA hL
   have h2:=g.low
   have h3:=g.iF
   omega
  rw [g.keep b (Nat.lt_of_lt_of_le hb f.size) ?_,f.keep b hb Nh]
  intro A L hA hL
  cases hρ:ρ A with
  |some L0 =>
   have e:L0=L:=by have:=f.grow A L0 hρ;rw [hA] at this;exact (Option.some.inj this).symm
   subst e
   exact aB A L0 hρ hL
  |none =>
   rcases (f.fresh A L hA hρ).2.2 with h1|⟨A0,L0,h0,he,hl,tU⟩
   ·omega
   ·have h1:=aB A0 L0 h0 (he.trans hL)
    have h2:=g.low
    have h3:=g.iF
    omega
 ·intro A hA hl
  rw [g.sB A (Nat.lt_of_lt_of_le hA f.iF) hl,f.sB A hA (Nat.lt_of_lt_of_le hl g.low)]

theorem fI.left {ρ:cE} {h h1 h2:Heap} (hf:fI ρ h h2) (hle:h1.size≤h2.size):fI ρ h h1:=fun A h3 h4=>hf A h3 (Nat.lt_of_lt_of_le h4 hle)
theorem fI.right {ρ ρ':cE} {h h1 h2:Heap} {w w':World} (hf:fI ρ h h2) (fr:Fr ρ ρ' h h1 w w'):fI ρ' h1 h2:=by
 intro A h3 h4
 cases hA:ρ' A with
 |none=>rfl
 |some L =>
  have hn:=hf A (Nat.le_trans fr.iF h3) h4
  have:=(fr.fresh A L hA hn).2.1
  omega

end Go.Am
namespace Go.Am
open Go.RowKit

structure bK.Fits (T:bK) (P:Program):Prop where
 desc:∀ t d,T.desc t=some d→P.underlying t=some d
 info:∀ t n b z,T.info t=some (n,b,z)→∃ i zv,P.info? t=some i∧i.size=n∧i.bytes=b∧i.zero=some zv∧zv.cells.toList=z∧z.length=n∧z.all lZ=true
 fn:∀ f fn,T.fn f=some fn→P.funcs[f]? = some fn∧(fn.name == "runtime.NumGoroutine")=false∧∀ c,fn.body=some c→rr T.gs c=true
 cmp:∀ t,T.cmp t=true→P.stoodInHeld t=false∧P.eqGuardType P.depth t=false
 zero:∀ t v,T.zero t=some v→(∃ i,P.info? t=some i∧i.zero=some v)∧plain v=true
 xE:∀ t name m,T.xE t name=some m→∃ i,P.info? t=some i∧i.methods.find? (·.name == name)=some m

theorem pB {l m:List Value} {o n:Nat} (h:cut l o n=some m):o+n≤l.length∧m.length=n∧∀ i,i < n→m[i]? = l[o+i]? := by
 unfold cut at h
 split at h
 ·rename_i hl
  cases h
  refine ⟨hl,by simp;omega,fun i hi=>?_⟩
  rw [List.getElem?_take,if_pos hi,List.getElem?_drop]
 ·cases h
theorem ru {l m:List Value} {o n:Nat} (hl:o+n≤l.length) (hm:m.length=n) (h:∀ i,i < n→m[i]? = l[o+i]?):cut l o n=some m:=by
 unfold cut
 rw [if_pos hl]
 congr 1
 refine List.ext_getElem? fun i=>?_
 rw [List.getElem?_take]
 split
 ·rename_i hi;rw [List.getElem?_drop,h i hi]
 ·rw [List.getElem?_eq_none (by omega)]

theorem nS {l vs:List Value} {o:Nat} (h:o+vs.length≤l.length):(az l o vs).length=l.length:=by
 simp [az];omega
theorem bI (l vs:List Value) (o i:Nat) (h:o+vs.length≤l.length):(az l o vs)[i]? = if i < o then l[i]? else if i < o+vs.length then vs[i - o]? else l[i]? := by
 unfold az
 rw [List.getElem?_append,List.getElem?_append]
 have hl:(l.take o).length=o:=by simp;omega
 simp only [List.length_append,hl]
 by_cases h1:i < o
 ·rw [if_pos (by omega),if_pos h1,if_pos h1,List.getElem?_take,if_pos h1]
 ·rw [if_neg h1]
  by_cases h2:i < o+vs.length
  ·rw [if_pos h2,if_neg h1,if_pos h2]
  ·rw [if_neg h2,if_neg h2,List.getElem?_drop]
   rw [show o+vs.length+(i - (o+vs.length))=i by omega,if_neg h1]
theorem zkZ {cur m us:List Value} {s n o:Nat} (hc:cut cur s n=some m) (ho:o+us.length≤n):cut (az cur (s+o) us) s n=some (az m o us):=by
 obtain ⟨h1,h2,h3⟩:=pB hc
 refine ru (by rw [nS (by omega)];exact h1) (by rw [nS (by omega)];exact h2) fun i hi=>?_
 rw [bI _ _ _ _ (by omega),bI _ _ _ _ (by omega)]
 by_cases h4:i < o
 ·rw [if_pos h4,if_pos (show s+i < s+o by omega),h3 i hi]
 ·rw [if_neg h4,if_neg (show ¬ s+i < s+o by omega)]
  by_cases h5:i < o+us.length
  ·rw [if_pos h5,if_pos (show s+i < s+o+us.length by omega)]
   congr 1
   omega
  ·rw [if_neg h5,if_neg (show ¬ s+i < s+o+us.length by omega),h3 i hi]

section
variable {P:Program} {T:bK} {ρ:cE} {h h':Heap} {w:World}

theorem WB (hs:bP ρ h w) {A o n:Nat} {L:Loc} {l:List Value} (hA:ρ A=some L) (hc:gQ A o n h=some l) :
 ∃ m,cD ρ l m∧m.length=n∧w.rangeAt L.b (L.s+o) m:=by
 have hb:=hs.fG A L hA
 unfold gQ at hc
 cases hg:h.get A with
 |none=>rw [hg] at hc;cases hc
 |some b =>
  rw [hg] at hc hb
  cases b with
  |dead=>cases hc
  |map es clock=>cases hc
  |loop env ps assign body st dN=>cases hc
  |row cs e ro =>
   obtain ⟨h1,h2,h3⟩:=pB hc
   cases ro with
   |true =>
    obtain ⟨_,eQ⟩:=hb
    have hex:∀ i,i < n→∃ u,w.cell? ⟨L.b,L.s+(o+i),none⟩=some u∧∀ x,l[i]? = some x→VR ρ x u:=by
     intro i hi
     have hx:cs[o+i]? = some (cs[o+i]'(by omega)):=List.getElem?_eq_getElem _
     obtain ⟨u,hu,hv⟩:=eQ (o+i) _ hx
     refine ⟨u,hu,fun x YP=>?_⟩
     rw [h3 i hi,hx] at YP
     cases YP
     exact hv
    refine ⟨(List.range n).map fun i=>(w.cell? ⟨L.b,L.s+(o+i),none⟩).getD undef,⟨by simp [h2],fun i x y hx hy=>?_⟩,by simp,fun j v hv=>?_⟩
    ·have hi:i < n:=by rw [← h2];exact (List.getElem?_eq_some_iff.1 hx).1
     obtain ⟨u,hu,hv⟩:=hex i hi
     rw [List.getElem?_map,List.getElem?_range hi,Option.map_some,hu] at hy
     cases hy
     exact hv x hx
    ·have hj:j < n:=by have:=(List.getElem?_eq_some_iff.1 hv).1;simpa using this
     obtain ⟨u,hu,_⟩:=hex j hj
     rw [List.getElem?_map,List.getElem?_range hj,Option.map_some,hu] at hv
     cases hv
     rw [Nat.add_assoc]
     exact hu
   |false =>
    obtain ⟨cur,fz,gr,_,_,m,hm,hv⟩:=hb
    obtain ⟨d,hd,vq⟩:=hv.cut hc
    obtain ⟨k1,k2,k3⟩:=pB hm
    obtain ⟨d1,d2,d3⟩:=pB hd
    refine ⟨d,vq,d2,fun j v hj=>?_⟩
    have NP:j < n:=by rw [← d2];exact (List.getElem?_eq_some_iff.1 hj).1
    rw [cell_of_row w L.b _ cur e fz gr]
    rw [d3 j NP,k3 (o+j) (by rw [k2] at d1;omega)] at hj
    rw [← Array.getElem?_toList,Nat.add_assoc]
    exact hj

theorem MR (hT:T.Fits P) (hs:bP ρ h w) {t:TypeId} {x y v:Value} (cW:VR ρ x y) (hl:dI T t x h=some v) :
 ∃ u,(Instr.loadAt t y).run P w=.ok u w∧VR ρ v u:=by
 cases cW with
 |ptr hA =>
  rename_i A o L
  simp only [dI] at hl
  cases hg:T.desc t with
  |none=>simp [aq,hg] at hl
  |some d =>
   have hu:=hT.desc t d hg
   have key:∀ (n:Nat) (l:List Value),T.info t≠none→gQ A o n h=some l→d.isRow=true→(T.info t).map (·.1)=some n→v=.agg l.toArray→∃ u,(Instr.loadAt t (.pointer (some ⟨L.b,L.s+o,none⟩))).run P w=.ok u w∧VR ρ v u:=by
    intro n l _ hc hd hi hv
    obtain ⟨m,hm,hlen,hr⟩:=WB hs hA hc
    cases gK:T.info t with
    |none=>simp [gK] at hi
    |some q =>
     obtain ⟨q1,q2,q3⟩:=q
     obtain ⟨i,zv,e1,e2,_⟩:=hT.info t q1 q2 q3 gK
     simp [gK] at hi
     refine ⟨.agg m.toArray,run_loadAt_mid w L.b (L.s+o) t m d hr hu hd (by rw [e1];simp [e2,hi,hlen]),?_⟩
     rw [hv]
     exact hm.toArray
   have adt:∀ (l:List Value),gQ A o 1 h=some l→l[0]? = some v→d.isRow=false→∃ u,(Instr.loadAt t (.pointer (some ⟨L.b,L.s+o,none⟩))).run P w=.ok u w∧VR ρ v u:=by
    intro l hc h0 hd
    obtain ⟨m,hm,hlen,hr⟩:=WB hs hA hc
    obtain ⟨u,BH,nL⟩:=hm.get h0
    have eQ:=hr 0 u BH
    refine ⟨u,?_,nL⟩
    have oU:(isAgg t).run P w=.ok false w:=by
     unfold isAgg
     rw [Sem.run_bind,run_underlying hu w]
     cases d <;> simp_all
    simp only [Nat.add_zero] at eQ
    simp [Instr.loadAt,Instr.sureAddr,loadVar,Sem.run_bind,oU,eQ]
   have Nu:(∃ n l,T.info t≠none∧gQ A o n h=some l∧d.isRow=true∧(T.info t).map (·.1)=some n∧v=.agg l.toArray)∨(∃ l,gQ A o 1 h=some l∧l[0]? = some v∧d.isRow=false):=by
    have acS:∀ (hl:((bJ T t).bind fun n=>(gQ A o n h).map fun l=>Value.agg l.toArray)=some v) (hd:d.isRow=true),
     ∃ n l,T.info t≠none∧gQ A o n h=some l∧d.isRow=true∧(T.info t).map (·.1)=some n∧v=.agg l.toArray:=by
     intro hl hd
     simp only [bJ,Option.bind_eq_some_iff,Option.map_eq_some_iff] at hl
     obtain ⟨n,⟨q,hq,rfl⟩,l,hc,rfl⟩:=hl
     exact ⟨q.1,l,by rw [hq];simp,hc,hd,by rw [hq];rfl,rfl⟩
    cases d <;> simp only [aq,hg,Option.map_some,Option.bind_some,if_true,Bool.false_eq_true,if_false] at hl <;>
     first
      |(left;exact acS hl rfl)
      |(right;simp only [Option.bind_eq_some_iff] at hl;obtain ⟨l,hc,h0⟩:=hl;exact ⟨l,hc,h0,rfl⟩)
   rcases Nu with ⟨n,l,a,b,c,d',e⟩|⟨l,a,b,c⟩
   ·exact key n l a b c d' e
   ·exact adt l a b c
 |_=>simp [dI] at hl

theorem JB (hs:bP ρ h w) {A:Nat} {L:Loc} {b b':bh} {W:World} (hA:ρ A=some L) (hg:h.get A=some b) (jG:b≠.dead) (sO:∀ cs e,b≠.row cs e true)
 (tW:W.os=w.os) (kE:W.tape=w.tape) (fE:W.output=w.output) (dz:W.heap.size=w.heap.size) (ja:∀ k,k≠L.b→W.heap[k]? = w.heap[k]?) (lB:pX ρ W L (some b')) :
 Fr ρ ρ h (h.set A b') w W∧bP ρ (h.set A b') W:=by
 have tG:A < h.size:=Heap.bD hg
 refine ⟨⟨fun _ _ h=>h,fun A' L' h1 h2=>(by rw [h1] at h2;cases h2),tW,kE,fE,by rw [dz];exact Nat.le_refl _,Nat.le_refl _,Nat.min_le_left _ _,?_,?_⟩,⟨?_,?_⟩⟩
 ·intro b hb aB
  refine ja b fun e=>?_
  subst e
  have:=aB A L hA rfl
  rw [Heap.bW,Heap.size_set] at this
  omega
 ·intro A' ei hl
  rw [Heap.bW] at hl
  rw [Heap.aD _ _ _ _ tG,if_neg (by omega)]
 ·intro A' L' ei
  rw [Heap.aD _ _ _ _ tG]
  by_cases e':A'=A
  ·subst e'
   rw [hA] at ei
   cases ei
   rw [if_pos rfl]
   exact lB
  ·rw [if_neg e']
   refine (hs.fG A' L' ei).keep (fun _ _ h=>h) (by omega) ?_
   rintro ⟨x,hx,hxd⟩
   refine ja L'.b fun heq=>?_
   rcases hs.inj A' A L' L ei hA e' heq with h1|h1|h1
   ·exact h1 ⟨x,hx,hxd⟩
   ·exact h1 ⟨_,hg,jG⟩
   ·obtain ⟨_,SW,e2,pL⟩:=h1
    rw [hg] at pL
    cases pL
    exact sO _ _ rfl
 ·intro A1 A2 L1 L2 h1 h2 aP hb
  have cz:∀ A',¬ live h A'→¬ live (h.set A b') A':=by
   intro A' hd
   by_cases e':A'=A
   ·subst e';exact (hd ⟨_,hg,jG⟩).elim
   ·unfold live at hd ⊢
    rw [Heap.aD _ _ _ _ tG,if_neg e']
    exact hd
  have Ot:∀ A',mT h A'→mT (h.set A b') A':=by
   rintro A' ⟨SW,e2,pL⟩
   refine ⟨SW,e2,?_⟩
   rw [Heap.aD _ _ _ _ tG,if_neg (by intro e';subst e';rw [hg] at pL;cases pL;exact sO _ _ rfl)]
   exact pL
  rcases hs.inj A1 A2 L1 L2 h1 h2 aP hb with h3|h3|⟨h3,h4⟩
  ·exact .inl (cz _ h3)
  ·exact .inr (.inl (cz _ h3))
  ·exact .inr (.inr ⟨Ot _ h3,Ot _ h4⟩)

theorem Wx (P:Program) (g o:Nat) (t:TypeId) (fz:Nat × Nat):∀ (vs:List Value) (i:Nat) (cur:Array Value) (w:World),w.heap[g]? = some (.cells cur t fz)→nz t cur.size fz→o+i+vs.length≤cur.size→(∀ v∈vs,v.oneCell'=true) →
 (storeCells ⟨g,o,none⟩ vs i).run P w=.ok () (w.setRow g (cur.toList.take (o+i)++vs++cur.toList.drop (o+i+vs.length)).toArray)
 | [],i,cur,w,hg,_,_,_=>by
  simp only [storeCells,List.append_nil,List.length_nil,Nat.add_zero,List.take_append_drop,Array.toArray_toList]
  rw [setRow_self w g cur t fz hg]
  rfl
 |v::rest,i,cur,w,hg,NJ,hl,h1=>by
  have hi:o+i < cur.size:=by simp at hl;omega
  have abK:(⟨g,o,none⟩:Addr).add i=⟨g,o+i,none⟩:=by unfold Addr.add;split <;> simp_all
  have eQ:w.cell? ⟨g,o+i,none⟩=some cur[o+i]:=by simp [World.cell?,hg,hi]
  have acb:w.frozen? ⟨g,o+i,none⟩=false:=by
   have h0:=NJ.BP (o+i) hi
   obtain ⟨lo,pM⟩:=fz
   simp only [World.frozen?,hg,Bool.and_eq_false_iff,decide_eq_false_iff_not]
   simp only at h0
   omega
  have ez:(store ((⟨g,o,none⟩:Addr).add i) v).run P w=.ok () (w.setRow g (cur.setIfInBounds (o+i) v)):=by
   rw [abK,run_store P w _ v _ (h1 v (by simp)),eQ]
   simp [acb,setCell_eq_setRow w g (o+i) cur t fz v hg]
  have ih:=Wx P g o t fz rest (i+1) (cur.setIfInBounds (o+i) v) (w.setRow g (cur.setIfInBounds (o+i) v)) (setRow_heap w g cur _ t _ hg) (by simpa using NJ) (by simp at hl ⊢;omega) (fun x hx=>h1 x (by simp [hx]))
  simp only [storeCells,Sem.run_bind,ez,Result.andThen_ok,ih,setRow_setRow]
  congr 3
  have e:=list_seg_step cur.toList (o+i) v rest (by simp at hl ⊢;omega)
  simpa [Array.toList_setIfInBounds,Nat.add_assoc] using e

theorem Rj (hs:bP ρ h w) {A o:Nat} {L:Loc} {vs us:List Value} (hA:ρ A=some L) (hv:cD ρ vs us) (hw:kj A o vs h=some h') :
 ∃ w',(storeCells ⟨L.b,L.s+o,none⟩ us 0).run P w=.ok () w'∧Fr ρ ρ h h' w w'∧bP ρ h' w':=by
 have hb:=hs.fG A L hA
 unfold kj at hw
 split at hw
 ·rename_i cs e hg
  split at hw
  ·rename_i hc
   simp only [Bool.and_eq_true,decide_eq_true_eq] at hc
   obtain ⟨ho,h1⟩:=hc
   cases hw
   rw [hg] at hb
   obtain ⟨cur,fz,gr,np,mS,m,hm,IZ⟩:=hb
   obtain ⟨k1,k2,k3⟩:=pB hm
   have YC:vs.length=us.length:=hv.1
   have ez:=Wx P L.b (L.s+o) e fz us 0 cur w gr np (by simp at k1 ⊢;omega) (hv.one h1)
   simp only [Nat.add_zero] at ez
   let k7:=(cur.toList.take (L.s+o)++us++cur.toList.drop (L.s+o+us.length)).toArray
   have qn:(w.setRow L.b k7).heap[L.b]? = some (.cells k7 e fz):=setRow_heap w L.b cur k7 e _ gr
   have dz:(w.setRow L.b k7).heap.size=w.heap.size:=by simp [World.setRow]
   have ac1:nz e k7.size fz:=by
    have:=nS (l:=cur.toList) (vs:=us) (o:=L.s+o) (by simp at k1 ⊢;omega)
    have h2:k7.size=cur.size:=by simpa [k7,az] using this
    rw [h2]
    exact np
   refine ⟨w.setRow L.b k7,ez,JB hs hA hg (by simp) (by simp) rfl rfl rfl dz (fun b hb=>setRow_other w L.b b k7 hb) ⟨k7,fz,qn,ac1,?_,az m o us,?_,IZ.az o hv⟩⟩
   ·show k7.size=L.uA
    rw [← mS]
    have:=nS (l:=cur.toList) (vs:=us) (o:=L.s+o) (by simp at k1 ⊢;omega)
    simpa [k7,az] using this
   ·rw [nS ho]
    have:=zkZ (us:=us) (o:=o) hm (by omega)
    simpa [k7,az] using this
  ·cases hw
 ·cases hw

theorem WK (hs:bP ρ h w) (gd:ρ h.size=none) {W:World} {L:Loc} {b:bh} (hold:∀ k,k < w.heap.size→W.heap[k]? = w.heap[k]?) (dz:w.heap.size≤W.heap.size)
 (tW:W.os=w.os) (kE:W.tape=w.tape) (fE:W.output=w.output) (hL:w.heap.size≤L.b) (hb:∀ ρ',(∀ A L,ρ A=some L→ρ' A=some L)→pX ρ' W L (some b)) :
 ∃ ρ',ρ' h.size=some L∧Fr ρ ρ' h (h.push b) w W∧bP ρ' (h.push b) W:=by
 have ey:∀ A L',ρ A=some L'→(fun A=>if A=h.size then some L else ρ A) A=some L':=by
  intro A L' hA
  have aP:A≠h.size:=fun e=>by rw [e,gd] at hA;cases hA
  simp only [if_neg aP]
  exact hA
 refine ⟨fun A=>if A=h.size then some L else ρ A,by simp,⟨ey,?_,tW,kE,fE,dz,by rw [Heap.size_push];omega,Nat.le_refl _,fun b hb _=>hold b hb,?_⟩,⟨?_,?_⟩⟩
 ·intro A L' hA hn
  split at hA
  ·rename_i e1;cases hA;exact ⟨by omega,by rw [Heap.size_push];omega,.inl hL⟩
  ·rw [hn] at hA;cases hA
 ·intro A hA _
  rw [Heap.bu,if_neg (by omega)]
 ·intro A L' hA
  rw [Heap.bu]
  split at hA
  ·rename_i e1
   cases hA
   rw [if_pos e1]
   exact hb _ ey
  ·rename_i e1
   rw [if_neg e1]
   exact (hs.fG A L' hA).keep ey dz fun _=>hold _ (hs.lt hA)
 ·intro A1 A2 L1 L2 h1 h2 aP mg
  have dF:∀ A,A≠h.size→(h.push b).get A=h.get A:=fun A hA=>by rw [Heap.bu,if_neg hA]
  split at h1
  ·split at h2
   ·omega
   ·rename_i e1 e2
    cases h1
    have:=hs.lt h2
    omega
  ·split at h2
   ·rename_i e1 e2
    cases h2
    have:=hs.lt h1
    omega
   ·rename_i e1 e2
    unfold live mT
    rw [dF A1 e1,dF A2 e2]
    exact hs.inj A1 A2 L1 L2 h1 h2 aP mg

theorem zj0 (hs:bP ρ h w) (gd:ρ h.size=none) {W:World} {cs m:List Value} {cur:Array Value} {e:TypeId} {fz:Nat × Nat} (np:nz e cur.size fz) (hW:W.heap=w.heap.push (.cells cur e fz))
 (tW:W.os=w.os) (kE:W.tape=w.tape) (fE:W.output=w.output) (mJ:cut cur.toList 0 cs.length=some m) (hv:cD ρ cs m) :
 ∃ ρ',ρ' h.size=some ⟨w.heap.size,0,cur.size⟩∧Fr ρ ρ' h (h.push (.row cs e false)) w W∧bP ρ' (h.push (.row cs e false)) W:=by
 refine WK hs gd (fun k hk=>by rw [hW,Array.getElem?_push,if_neg (by omega)]) (by rw [hW];simp) tW kE fE (Nat.le_refl _) fun ρ' hg=>?_
 exact ⟨cur,fz,by rw [hW];simp,np,rfl,m,mJ,hv.mono hg⟩
theorem Jy (hs:bP ρ h w) (gd:ρ h.size=none) {W:World} {cs m:List Value} {cur:Array Value} {e:TypeId} (hW:W.heap=w.heap.push (.cells cur e (0,0)))
 (tW:W.os=w.os) (kE:W.tape=w.tape) (fE:W.output=w.output) (mJ:cut cur.toList 0 cs.length=some m) (hv:cD ρ cs m) :
 ∃ ρ',ρ' h.size=some ⟨w.heap.size,0,cur.size⟩∧Fr ρ ρ' h (h.push (.row cs e false)) w W∧bP ρ' (h.push (.row cs e false)) W :=
 zj0 hs gd (.zero _ _) hW tW kE fE mJ hv

theorem bP.same (hs:bP ρ h w) {W:World} (hW:W.heap=w.heap):bP ρ h W :=
 ⟨fun A L hA=>(hs.fG A L hA).keep (fun _ _ h=>h) (by rw [hW];exact Nat.le_refl _) (fun _=>by rw [hW]),hs.inj⟩
end
end Go.Am
namespace Go.Am
open Go.RowKit

theorem FC (z:Array Value) (n:Nat):((Array.range (n*z.size)).map fun i=>z[i % z.size]!).toList=kb z.toList n:=by
 induction n with
 |zero=>simp [kb]
 |succ n ih =>
  have hr:Array.range ((n+1)*z.size)=Array.range (n*z.size)++(Array.range z.size).map (n*z.size+·):=by
   apply Array.ext'
   simp only [Array.toList_range,Array.toList_append,Array.toList_map,Nat.add_mul,Nat.one_mul,List.range_add]
  rw [hr,Array.map_append,Array.toList_append,ih]
  simp only [kb,List.replicate_succ',List.flatten_append,List.flatten_singleton]
  congr 1
  apply List.ext_getElem?
  intro i
  by_cases hi:i < z.size
  ·simp [hi,Nat.mod_eq_of_lt hi]
  ·simp [hi]

theorem zmo (z:List Value) (n:Nat):(kb z n).length=n*z.length:=by simp [kb]

theorem Ih {z:List Value} (h:z.all lZ=true) (n:Nat):(kb z n).all lZ=true:=by
 simp only [kb,List.all_eq_true,List.mem_flatten,List.mem_replicate] at *
 rintro x ⟨l,⟨_,rfl⟩,hx⟩
 exact h x hx


section
variable {P:Program} {T:bK} {ρ:cE} {h h':Heap} {w:World}

theorem zil {b o q:Nat} {m:List Value} (h:w.rangeAt b o m):w.rangeAt b o (m.take q):=by
 intro j v hv
 rw [List.getElem?_take] at hv
 split at hv
 ·exact h j v hv
 ·cases hv

theorem Wy {b o k q n c:Nat} {m:List Value} (h:w.rangeAt b o m) (hl:m.length=q*k):(Builtin.firstCells k q (.slice (some ⟨b,o,none⟩) n c)).run P w=.ok m.toArray w :=
 run_firstCells_some w k q ⟨b,o,none⟩ n c m hl (fun j v hv=>by rw [Addr.add_mid];exact h j v hv)

theorem Ks (hs:bP ρ h w) {a:Option Addr} {n c k:Nat} {y:Value} {l:List Value} (cW:VR ρ (.slice a n c) y) (hc:nc (.slice a n c) k h=some l) :
 ∃ a' c' m,y=.slice a' n c'∧cD ρ l m∧m.length=n*k∧∀ W:World,W.heap=w.heap→∀ q,q≤n→(Builtin.firstCells k q y).run P W=.ok (m.take (q*k)).toArray W:=by
 have hzero:∀ (q:Nat) (ad:Addr) (c':Nat) (W:World),q*k=0→(Builtin.firstCells k q (.slice (some ad) n c')).run P W=.ok #[] W:=by
  intro q ad c' W hq
  simp [Builtin.firstCells,hq,loadCells,loadCellsFrom]
 have wG:∀ {A o:Nat} {L:Loc} {ad:Addr} {c':Nat},ρ A=some L→(n≠0→ad=⟨L.b,L.s+o,none⟩)→nc (.slice (some ⟨A,o,none⟩) n c) k h=some l →
  ∃ m,cD ρ l m∧m.length=n*k∧∀ W:World,W.heap=w.heap→∀ q,q≤n→(Builtin.firstCells k q (.slice (some ad) n c')).run P W=.ok (m.take (q*k)).toArray W:=by
  intro A o L ad c' hA ea hc
  simp only [nc] at hc
  split at hc
  ·rename_i h0
   cases hc
   refine ⟨[],.nil ρ,by simp [h0],fun W _ q hq=>?_⟩
   have h1:q*k=0:=by
    rcases Nat.mul_eq_zero.1 h0 with e|e
    ·have:q=0:=by omega
     simp [this]
    ·simp [e]
   rw [hzero q ad c' W h1]
   simp
  ·rename_i h0
   have hn:n≠0:=fun e=>h0 (by simp [e])
   obtain ⟨m,hm,hlen,hr⟩:=WB hs hA hc
   refine ⟨m,hm,hlen,fun W hW q hq=>?_⟩
   rw [ea hn]
   have bz:W.rangeAt L.b (L.s+o) m:=fun j v hv=>(World.cell?_of_block (by rw [hW])).trans (hr j v hv)
   refine Wy (zil bz) ?_
   rw [List.length_take,hlen]
   exact Nat.min_eq_left (Nat.mul_le_mul_right _ hq)
 cases cW with
 |dt =>
  simp only [nc] at hc
  cases hc
  refine ⟨none,0,[],rfl,.nil ρ,by simp,fun W _ q hq=>?_⟩
  have:q=0:=by omega
  subst this
  simp [Builtin.firstCells]
 |slice hA wF hn ea =>
  obtain ⟨m,h1,h2,h3⟩:=wG hA (fun h0=>ea (by omega)) hc
  exact ⟨_,_,m,rfl,h1,h2,h3⟩
 |ck hA wF cV hn hk hm ea =>
  obtain ⟨m,h1,h2,h3⟩:=wG hA (fun h0=>(ea (by omega)).1) hc
  exact ⟨_,_,m,rfl,h1,h2,h3⟩

theorem zly (hs:bP ρ h w) {x y:Value} {k m:Nat} {l:List Value} (cW:VR ρ x y) (hc:fO x k h=some (m,l)) :
 ∃ n,cD ρ l n∧n.length=m*k∧Builtin.lenOf y=pure m∧∀ W:World,W.heap=w.heap→∀ q,q≤m→(Builtin.firstCells k q y).run P W=.ok (n.take (q*k)).toArray W:=by
 cases x with
 |string b =>
  cases cW
  simp only [fO] at hc
  split at hc
  ·rename_i hk
   subst hk
   cases hc
   refine ⟨_,cD.plain ρ (by rw [List.all_eq_true];intro x hx;rw [List.mem_map] at hx;obtain ⟨u,_,rfl⟩:=hx;rfl),by simp,rfl,fun W _ q hq=>?_⟩
   simp only [Builtin.firstCells,Sem.run_pure,Nat.mul_one]
   congr 1
   apply Array.ext'
   have hd:(b.extract 0 q).data=b.data.extract 0 q:=by
    exact ByteArray.data_extract
   rw [hd]
   simp
  ·cases hc
 |slice a n c =>
  simp only [fO,Option.map_eq_some_iff,Prod.mk.injEq] at hc
  obtain ⟨l',hc,rfl,rfl⟩:=hc
  obtain ⟨a',c',m,rfl,h1,h2,h3⟩:=Ks (P:=P) hs cW hc
  exact ⟨m,h1,h2,rfl,h3⟩
 |_=>simp [fO] at hc

def SF (P:Program) (u:TypeId):Prop:=(∃ e',P.underlying u=some (.slice e'))∨P.underlying u=some .string

theorem CF {t u ty e:TypeId} {i:TypeInfo} (ht:P.underlying t=some (.slice e)) (hu:SF P u) (hi:P.info? e=some i)
 {a:Addr} {n c m:Nat} {y:Value} {news:List Value} (hlen:Builtin.lenOf y=pure m) (hf:(Builtin.firstCells i.size m y).run P w=.ok news.toArray w) (iD:n+m≤c) {w':World}
 (ez:(storeCells (a.add (n*i.size)) news 0).run P w=.ok () w') :
 (Builtin.append_ #[t,u] ty #[.slice (some a) n c,y]).run P w=.ok (.slice (some a) (n+m) c) w':=by
 rcases hu with ⟨e',hd⟩|hd
 ·simp [Builtin.append_,run_underlying ht,run_underlying hd,sizeOf,typeInfo,hi,hlen,iD,hf,ez]
 ·simp [Builtin.append_,run_underlying ht,run_underlying hd,sizeOf,typeInfo,hi,hlen,iD,hf,ez]

theorem zj7 {t u ty e:TypeId} {i:TypeInfo} (ht:P.underlying t=some (.slice e)) (hu:SF P u) (hi:P.info? e=some i)
 {a:Option Addr} {n c:Nat} {y:Value} (hlen:Builtin.lenOf y=pure 0) (hf:(Builtin.firstCells i.size 0 y).run P w=.ok #[] w) (iD:n≤c) :
 (Builtin.append_ #[t,u] ty #[.slice a n c,y]).run P w=.ok (.slice a n c) w:=by
 rcases hu with ⟨e',hd⟩|hd <;> cases a <;> simp [Builtin.append_,run_underlying ht,run_underlying hd,sizeOf,typeInfo,hi,hlen,iD,hf,storeCells]

theorem ziD {t u ty e:TypeId} {i:TypeInfo} {z:Value} (ht:P.underlying t=some (.slice e)) (hu:SF P u) (hi:P.info? e=some i) (hz:i.zero=some z)
 {base:Option Addr} {n c m:Nat} {y:Value} {qJ news:List Value} (hlen:Builtin.lenOf y=pure m) (hf:(Builtin.firstCells i.size m y).run P w.drew=.ok news.toArray w.drew)
 (ho:(Builtin.firstCells i.size n (.slice base n c)).run P w.drew=.ok qJ.toArray w.drew)
 (hg:c < n+m) (h63:n+m≤1152921504606846976) (jV:(n+m)*i.bytes≤140737488355328) :
 (Builtin.append_ #[t,u] ty #[.slice base n c,y]).run P w =
  .ok (.slice (some ⟨w.heap.size,0,none⟩) (n+m) (grownCap w (n+m) c e)) (w.drew.alloc (.cells ((qJ++news)++(Builtin.zeroCells z.cells (grownCap w (n+m) c e - (n+m))).toList).toArray e)):=by
 have hn:¬ (n+m≤c):=by omega
 have MX:¬ (9223372036854775807 < ((n:Int)+(m:Int))):=by omega
 have ai7:=growslice_fits hg jV
 have MW:¬ (281474976710656 < Builtin.nextslicecap (n+m) c*i.bytes):=by omega
 rcases hu with ⟨e',hd⟩|hd
 ·simp [Builtin.append_,run_underlying ht,run_underlying hd,sizeOf,typeInfo,zeroValue,hi,hz,hlen,hn,MX,MW,Question.forced,hf,ho,Go.newRow,grownCap]
  congr 2
  apply Array.ext'
  simp
 ·simp [Builtin.append_,run_underlying ht,run_underlying hd,sizeOf,typeInfo,zeroValue,hi,hz,hlen,hn,MX,MW,Question.forced,hf,ho,Go.newRow,grownCap]
  congr 2
  apply Array.ext'
  simp

theorem zk1 (hs:bP ρ h w) {A:Nat} {cs:List Value} {e:TypeId} (hg:h.get A=some (.row cs e false)) :
 Fr ρ ρ h (h.set A .dead) w w∧bP ρ (h.set A .dead) w:=by
 have tG:A < h.size:=Heap.bD hg
 refine ⟨⟨fun _ _ h=>h,fun A' L' h1 h2=>(by rw [h1] at h2;cases h2),rfl,rfl,rfl,Nat.le_refl _,Nat.le_refl _,Nat.min_le_left _ _,fun _ _ _=>rfl,?_⟩,⟨?_,?_⟩⟩
 ·intro A' ei hl
  rw [Heap.bW] at hl
  rw [Heap.aD _ _ _ _ tG,if_neg (by omega)]
 ·intro A' L' ei
  rw [Heap.aD _ _ _ _ tG]
  by_cases e':A'=A
  ·subst e'
   rw [if_pos rfl]
   exact hs.lt ei
  ·rw [if_neg e']
   exact hs.fG A' L' ei
 ·intro A1 A2 L1 L2 h1 h2 aP hb
  unfold live mT
  rw [Heap.aD _ _ _ _ tG,Heap.aD _ _ _ _ tG]
  by_cases e1:A1=A
  ·left;simp [e1]
  ·by_cases e2:A2=A
   ·right;left;simp [e2]
   ·rw [if_neg e1,if_neg e2]
    exact hs.inj A1 A2 L1 L2 h1 h2 aP hb

theorem zsz {cur us:List Value} {s n:Nat} {m:List Value} (hc:cut cur s n=some m) (hl:s+n+us.length≤cur.length) :
 cut (az cur (s+n) us) s (n+us.length)=some (m++us):=by
 obtain ⟨h1,h2,h3⟩:=pB hc
 refine ru (by rw [nS hl];omega) (by simp [h2]) fun i hi=>?_
 rw [bI _ _ _ _ hl,List.getElem?_append,h2]
 by_cases pM:i < n
 ·rw [if_pos pM,if_pos (by omega),h3 i pM]
 ·rw [if_neg pM,if_neg (by omega),if_pos (by omega)]
  congr 1
  omega

theorem zqS (hs:bP ρ h w) (gd:ρ h.size=none) {A o:Nat} {L:Loc} {cs eJ news us m:List Value} {e:TypeId} {cur:Array Value} {fz:Nat × Nat} (hA:ρ A=some L) (hg:h.get A=some (.row cs e false))
 (gr:w.heap[L.b]? = some (.cells cur e fz)) (np:nz e cur.size fz) (mS:cur.size=L.uA) (hm:cut cur.toList (L.s+o) eJ.length=some m) (hv:cD ρ eJ m) (hn:cD ρ news us)
 (jV:L.s+o+eJ.length+us.length≤L.uA) :
 ∃ ρ',ρ' h.size=some ⟨L.b,L.s+o,L.uA⟩∧Fr ρ ρ' h ((h.set A .dead).push (.row (eJ++news) e false)) w (w.setRow L.b (az cur.toList (L.s+o+eJ.length) us).toArray) ∧
   bP ρ' ((h.set A .dead).push (.row (eJ++news) e false)) (w.setRow L.b (az cur.toList (L.s+o+eJ.length) us).toArray):=by
 have tG:A < h.size:=Heap.bD hg
 have ey:∀ A L',ρ A=some L'→(fun A=>if A=h.size then some (⟨L.b,L.s+o,L.uA⟩:Loc) else ρ A) A=some L':=by
  intro A L' hA
  have aP:A≠h.size:=fun e=>by rw [e,gd] at hA;cases hA
  simp only [if_neg aP]
  exact hA
 have qn:=setRow_heap w L.b cur (az cur.toList (L.s+o+eJ.length) us).toArray e _ gr
 have ja:∀ b,b≠L.b→(w.setRow L.b (az cur.toList (L.s+o+eJ.length) us).toArray).heap[b]? = w.heap[b]? := fun b hb=>setRow_other w L.b b _ hb
 have dz:(w.setRow L.b (az cur.toList (L.s+o+eJ.length) us).toArray).heap.size=w.heap.size:=by simp [World.setRow]
 have dF:∀ j,((h.set A .dead).push (.row (eJ++news) e false)).get j=if j=h.size then some (.row (eJ++news) e false) else if j=A then some .dead else h.get j:=by
  intro j
  rw [Heap.bu,Heap.size_set,Heap.aD _ _ _ _ tG]
 have aP:∀ A' L',ρ A'=some L'→A'≠A→live h A'→L'.b≠L.b:=by
  intro A' L' ei e' jG heq
  rcases hs.inj A' A L' L ei hA e' heq with h1|h1|h1
  ·exact h1 jG
  ·exact h1 ⟨_,hg,by simp⟩
  ·obtain ⟨_,SW,e2,pL⟩:=h1
   rw [hg] at pL
   cases pL
 refine ⟨fun A=>if A=h.size then some ⟨L.b,L.s+o,L.uA⟩ else ρ A,by simp,⟨ey,?_,rfl,rfl,rfl,by rw [dz];exact Nat.le_refl _,?_,Nat.min_le_left _ _,?_,?_⟩,⟨?_,?_⟩⟩
 ·intro A' L' ei Bx
  split at ei
  ·rename_i e1
   cases ei
   refine ⟨by omega,by rw [Heap.size_push,Heap.size_set];omega,.inr ⟨A,L,hA,rfl,?_,by rw [Heap.size_push,Heap.size_set];omega⟩⟩
   rw [Heap.de,Heap.bW]
   omega
  ·rw [Bx] at ei;cases ei
 ·rw [Heap.size_push,Heap.size_set];omega
 ·intro b hb aB
  refine ja b fun e'=>?_
  subst e'
  have:=aB A L hA rfl
  rw [Heap.de,Heap.bW,Heap.size_push,Heap.size_set] at this
  omega
 ·intro A' ei hl
  rw [Heap.de,Heap.bW] at hl
  rw [dF,if_neg (by omega),if_neg (by omega)]
 ·intro A' L' ei
  rw [dF]
  split at ei
  ·rename_i e1
   cases ei
   rw [if_pos e1]
   refine ⟨_,fz,qn,?_,?_,m++us,?_,(hv.append hn).mono ey⟩
   ·rw [List.size_toArray,nS (by simp;omega)]
    simpa using np
   ·show (az cur.toList (L.s+o+eJ.length) us).toArray.size=L.uA
    rw [List.size_toArray,nS (by simp;omega)]
    simpa using mS
   ·show cut (az cur.toList (L.s+o+eJ.length) us) (L.s+o) (eJ++news).length=some (m++us)
    rw [List.length_append,hn.1]
    exact zsz hm (by simp;omega)
  ·rename_i e1
   rw [if_neg e1]
   by_cases e2:A'=A
   ·rw [if_pos e2]
    show L'.b < _
    rw [dz]
    exact hs.lt ei
   ·rw [if_neg e2]
    exact (hs.fG A' L' ei).keep ey (by rw [dz];exact Nat.le_refl _) fun hl=>ja L'.b (aP A' L' ei e2 hl)
 ·intro A1 A2 L1 L2 h1 h2 w7 hb
  unfold live mT
  rw [dF,dF]
  have bf:∀ A' L',A'≠h.size→ρ A'=some L'→L.b=L'.b→¬ ∃ b,(if A'=A then some bh.dead else h.get A')=some b∧b≠.dead:=by
   intro A' L' hh ei mg
   by_cases e2:A'=A
   ·simp [e2]
   ·rw [if_neg e2]
    exact fun jG=>aP A' L' ei e2 jG mg.symm
  split at h1
  ·rename_i e1
   split at h2
   ·omega
   ·rename_i e2
    cases h1
    right;left
    rw [if_neg e2]
    exact bf A2 L2 e2 h2 hb
  ·rename_i e1
   split at h2
   ·rename_i e2
    cases h2
    left
    rw [if_neg e1]
    exact bf A1 L1 e1 h1 hb.symm
   ·rename_i e2
    rw [if_neg e1,if_neg e2]
    by_cases f1:A1=A
    ·left;simp [f1]
    ·by_cases f2:A2=A
     ·right;left;simp [f2]
     ·rw [if_neg f1,if_neg f2]
      exact hs.inj A1 A2 L1 L2 h1 h2 w7 hb

theorem CL {k q:Nat} (hk:0 < k) (hG:q < G):G≤G*k+q∧(G*k+q) % G=q∧(G*k+q) / G=k:=by
 refine ⟨?_,?_,?_⟩
 ·calc G=G*1:=(Nat.mul_one _).symm
   _≤G*k:=Nat.mul_le_mul_left _ hk
   _≤G*k+q:=Nat.le_add_right _ _
 ·rw [Nat.mul_add_mod,Nat.mod_eq_of_lt hG]
 ·rw [Nat.mul_add_div (by unfold G;omega),Nat.div_eq_of_lt hG,Nat.add_zero]

theorem zgS (hT:T.Fits P) (hs:bP ρ h w) (bN:fI ρ h h') {t u ty:TypeId} {s s' x x' v:Value} (hu:SF P u) (yy:VR ρ s s') (hx:VR ρ x x') (ha:hZ T t s x h=some (v,h')) :
 ∃ ρ' vc w',(Builtin.append_ #[t,u] ty #[s',x']).run P w=.ok vc w'∧Fr ρ ρ' h h' w w'∧bP ρ' h' w'∧VR ρ' v vc:=by
 unfold hZ at ha
 split at ha
 ·rename_i e hd
  have ht:=hT.desc _ _ hd
  simp only [Option.bind_eq_some_iff,Prod.exists] at ha
  obtain ⟨k,bytes,z,gK,m,news,jZ,ha⟩:=ha
  obtain ⟨i,zv,hi,rfl,rfl,hz,rfl,ur,sR⟩:=hT.info e k bytes z gK
  obtain ⟨us,kF,OC,hlen,dX⟩:=zly (P:=P) hs hx jZ
  have NI:us.take (m*i.size)=us:=List.take_of_length_le (by omega)
  have hf:∀ W:World,W.heap=w.heap→(Builtin.firstCells i.size m x').run P W=.ok us.toArray W:=fun W hW=>by
   have:=dX W hW m (Nat.le_refl _)
   rwa [NI] at this
  split at ha
  ·rename_i base n c
   split at ha
   ·rename_i hm
    subst hm
    cases ha
    have h0:=dX w rfl 0 (Nat.le_refl _)
    simp only [Nat.zero_mul,List.take_zero] at h0
    have key:∃ a' c',s'=.slice a' n c'∧n≤c':=by
     cases yy with
     |dt=>exact ⟨_,_,rfl,Nat.le_refl _⟩
     |slice hA hc hn ea=>exact ⟨_,_,rfl,hn⟩
     |ck hA hc cV hn hk hm ea=>exact ⟨_,_,rfl,by omega⟩
    obtain ⟨a',c',rfl,hn⟩:=key
    exact ⟨ρ,_,w,zj7 ht hu hi hlen h0 hn,Fr.refl _ _ _,hs,yy⟩
   ·rename_i hm
    split at ha
    ·cases ha
    ·rename_i Nn
     simp only [Bool.or_eq_true,decide_eq_true_eq,Bool.not_eq_true',not_or,Bool.not_eq_false] at Nn
     obtain ⟨⟨⟨sK,tL⟩,Wq⟩,bf⟩:=Nn
     have wT:0 < i.size:=by omega
     split at ha
     ·rename_i iD
      split at ha
      ·rename_i A o
       split at ha
       ·rename_i fS
        simp only [Option.map_eq_some_iff,Prod.mk.injEq] at ha
        obtain ⟨h1,I6,rfl,rfl⟩:=ha
        cases yy with
        |slice hA hc hn ea =>
         rename_i L ad
         obtain rfl:=ea (by have:=Nat.mod_eq_of_lt hc;omega)
         obtain ⟨w',ez,df,dL⟩:=Rj (P:=P) hs hA kF I6
         have hcc:c % G=c:=Nat.mod_eq_of_lt hc
         rw [← Nat.add_assoc] at ez
         exact ⟨ρ,_,w',CF ht hu hi hlen (hf w rfl) (by omega) (by rw [Addr.add_mid];exact ez),df,dL,.slice hA hc (by omega) (fun _=>rfl)⟩
        |ck hA hc cV hn hk DP ea =>
         rename_i c' L ad
         obtain ⟨w',ez,df,dL⟩:=Rj (P:=P) hs hA kF I6
         have pJ:c'≠0:=by omega
         obtain ⟨rfl,jV⟩:=ea pJ
         rw [← Nat.add_assoc] at ez
         exact ⟨ρ,_,w',CF ht hu hi hlen (hf w rfl) (by omega) (by rw [Addr.add_mid];exact ez),df,dL,.ck hA hc cV (by omega) hk DP (fun _=>⟨rfl,jV⟩)⟩
       ·cases ha
      ·cases ha
     ·rename_i iD
      simp only [Option.bind_eq_some_iff] at ha
      obtain ⟨eJ,hold,ha⟩:=ha
      obtain ⟨a',c',mo,rfl,D8,Oa,hfo⟩:=Ks (P:=P) hs yy hold
      have Gk:mo.take (n*i.size)=mo:=List.take_of_length_le (by omega)
      have aca:∀ W:World,W.heap=w.heap→(Builtin.firstCells i.size n (.slice a' n c')).run P W=.ok mo.toArray W:=fun W hW=>by
       have:=hfo W hW n (Nat.le_refl _)
       rwa [Gk] at this
      have jy:=CL (q:=n+m) wT (by unfold G;omega)
      /- a new row, on whatever plain heap -/
      have grown:∀ (h2:Heap),bP ρ h2 w→ρ h2.size=none→c' < n+m→∃ ρ' vc w',(Builtin.append_ #[t,u] ty #[.slice a' n c',x']).run P w=.ok vc w'∧Fr ρ ρ' h2 (h2.push (.row (eJ++news) e false)) w w'∧bP ρ' (h2.push (.row (eJ++news) e false)) w' ∧
       VR ρ' (.slice (some ⟨h2.size,0,none⟩) (n+m) (G*i.size+(n+m))) vc:=by
       intro h2 jc Ob aR
       have hr:=ziD (w:=w) (ty:=ty) ht hu hi hz hlen (hf w.drew rfl) (aca w.drew rfl) aR (by omega) (by omega)
       have kQ:=grownCap_ge w (n+m) c' e
       have hle:=grownCap_le_maxLen w (n+m) c' e (by unfold maxLen;omega)
       have oo:zv.cells.size=i.size:=by rw [← Array.length_toList,ur]
       have NW:((mo++us)++(Builtin.zeroCells zv.cells (grownCap w (n+m) c' e - (n+m))).toList).length=grownCap w (n+m) c' e*i.size:=by
        simp only [List.length_append,Oa,OC,Array.length_toList,size_zeroCells,oo,← Nat.add_mul]
        congr 1
        omega
       have acz:(eJ++news).length=(mo++us).length:=by simp [D8.1,kF.1]
       obtain ⟨ρ',hρ,df,dL⟩:=Jy (W:=w.drew.alloc (.cells ((mo++us)++(Builtin.zeroCells zv.cells (grownCap w (n+m) c' e - (n+m))).toList).toArray e)) (cs:=eJ++news) (m:=mo++us) jc Ob rfl rfl rfl rfl
        (by rw [acz]
            refine ru (by simp) rfl fun j hj=>?_
            rw [Nat.zero_add]
            exact (List.getElem?_append_left (l₂:=(Builtin.zeroCells zv.cells (grownCap w (n+m) c' e - (n+m))).toList) hj).symm)
        (D8.append kF)
       refine ⟨ρ',_,_,hr,df,dL,?_⟩
       refine .ck hρ jy.1 (by rw [jy.2.1];exact kQ) (by rw [jy.2.1];exact Nat.le_refl _) (by rw [jy.2.2];exact wT) hle (fun _=>⟨by simp,?_⟩)
       rw [jy.2.2]
       simp only [List.size_toArray,NW]
       omega
      split at ha
      ·rename_i hc
       cases ha
       have hcc:c % G=c:=Nat.mod_eq_of_lt hc
       have aru:c'=c:=by
        cases yy with
        |dt=>rfl
        |slice hA hc hn ea=>rfl
        |ck hA wF cV hn hk hm ea=>omega
       exact grown h hs (bN _ (Nat.le_refl _) (by rw [Heap.size_push];omega)) (by omega)
      ·rename_i hc
       split at ha
       ·rename_i A o
        split at ha
        ·rename_i cs e' hg
         split at ha
         ·rename_i dK
          simp only [Bool.and_eq_true,decide_eq_true_eq] at dK
          obtain ⟨rfl,fS⟩:=dK
          cases ha
          cases yy with
          |slice hA wF hn ea=>omega
          |ck hA wF cV hn hk DP ea =>
           rename_i L ad
           by_cases aL:n+m≤c'
           ·have pJ:c'≠0:=by omega
            obtain ⟨rfl,jV⟩:=ea pJ
            have hb:=hs.fG A L hA
            rw [hg] at hb
            obtain ⟨cur,fz,gr,np,mS,m0,yv,nL⟩:=hb
            obtain ⟨k1,k2,k3⟩:=pB yv
            rw [fS] at jV
            have hmul:(n+m)*i.size≤c'*i.size:=Nat.mul_le_mul_right _ aL
            rw [Nat.add_mul] at hmul
            have DR:eJ.length=n*i.size:=by rw [D8.1];exact Oa
            have Nx:∃ mm,cut cur.toList (L.s+o) eJ.length=some mm∧cD ρ eJ mm:=by
             simp only [nc] at hold
             split at hold
             ·cases hold
              exact ⟨[],ru (by simp;omega) rfl (by intro i hi;simp at hi),.nil ρ⟩
             ·simp only [gQ,hg] at hold
              obtain ⟨d,fj,vq⟩:=nL.cut hold
              obtain ⟨d1,d2,d3⟩:=pB fj
              refine ⟨d,ru (by simp at k1 ⊢;omega) (by rw [DR];exact d2) (fun j hj=>?_),vq⟩
              rw [d3 j (by omega),k3 (o+j) (by omega),Nat.add_assoc]
            obtain ⟨mm,Bw,IZ⟩:=Nx
            obtain ⟨ρ',hρ,df,dL⟩:=zqS hs (bN _ (Nat.le_refl _) (by rw [Heap.size_push,Heap.size_set];omega)) hA hg gr np mS Bw IZ kF (by omega)
            have ez:=Wx P L.b (L.s+o+eJ.length) e' fz us 0 cur w gr np (by simp;omega) (kF.one bf)
            simp only [Nat.add_zero] at ez
            refine ⟨ρ',_,_,CF ht hu hi hlen (hf w rfl) aL (by rw [Addr.add_mid,← DR];exact ez),df,dL,?_⟩
            refine .ck hρ jy.1 (by rw [jy.2.1];exact aL) (by rw [jy.2.1];exact Nat.le_refl _) (by rw [jy.2.2];exact wT) DP (fun _=>⟨rfl,?_⟩)
            rw [jy.2.2]
            exact jV
           ·obtain ⟨oR,Hj⟩:=zk1 hs hg
            obtain ⟨ρ',vc,w',hr,Iz,adX,jI⟩:=grown _ Hj (bN _ (Nat.le_refl _) (by rw [Heap.size_push,Heap.size_set];omega)) (by omega)
            exact ⟨ρ',vc,w',hr,oR.trans Iz,adX,jI⟩
         ·cases ha
        ·cases ha
       ·cases ha
  ·cases ha
 ·cases ha

end
end Go.Am
namespace Go.Am
open Go.RowKit

theorem Rc {α:Type} (P:Program):∀ (c:Sem α) (a:α),iH P c=some a→∀ w,c.run P w=.ok a w
 | .pure b,a,h,w=>by simp only [iH] at h;cases h;rfl
 | .program k,a,h,w=>by simp only [iH] at h;exact Rc P (k P) a h w
 | .mark m k,a,h,w=>by simp only [iH] at h;exact Rc P k a h w
 | .load ..,_,h,_=>by simp [iH] at h
 | .store ..,_,h,_=>by simp [iH] at h
 | .new ..,_,h,_=>by simp [iH] at h
 | .shape ..,_,h,_=>by simp [iH] at h
 | .freeze ..,_,h,_=>by simp [iH] at h
 | .frozen ..,_,h,_=>by simp [iH] at h
 | .getObj ..,_,h,_=>by simp [iH] at h
 | .setObj ..,_,h,_=>by simp [iH] at h
 | .choose ..,_,h,_=>by simp [iH] at h
 | .sys ..,_,h,_=>by simp [iH] at h
 | .halt ..,_,h,_=>by simp [iH] at h

section
variable {P:Program} {T:bK} {ρ:cE} {h h':Heap} {w:World}

theorem zqO (hT:T.Fits P) {t:TypeId} {n:Nat} (hn:bJ T t=some n):∃ i,P.info? t=some i∧i.size=n:=by
 simp only [bJ,Option.map_eq_some_iff,Prod.exists] at hn
 obtain ⟨a,b,c,hi,rfl⟩:=hn
 obtain ⟨i,zv,h1,h2,_⟩:=hT.info t a b c hi
 exact ⟨i,h1,h2⟩

theorem uD (hT:T.Fits P) {t:TypeId} {n:Nat} (hn:bJ T t=some n) (w:World):(sizeOf t).run P w=.ok n w:=by
 obtain ⟨i,hi,rfl⟩:=zqO hT hn
 simp [sizeOf,typeInfo,hi]

theorem zpJ (hT:T.Fits P) (hs:bP ρ h w) {t u ty:TypeId} {d d' s s' v:Value} (hd:VR ρ d d') (yy:VR ρ s s') (hc:H9 T t d s h=some (v,h')) :
 ∃ vc w',(Builtin.copy_ #[t,u] ty #[d',s']).run P w=.ok vc w'∧Fr ρ ρ h h' w w'∧bP ρ h' w'∧VR ρ v vc:=by
 unfold H9 at hc
 split at hc
 ·rename_i e a n c vf
  have ht:=hT.desc _ _ vf
  simp only [Option.bind_eq_some_iff,Prod.exists] at hc
  obtain ⟨k,hk,m,src,jZ,hc⟩:=hc
  obtain ⟨us,kF,OC,hlen,dX⟩:=zly (P:=P) hs yy jZ
  have dz:=uD hT hk w
  have hf:=dX w rfl (min m n) (Nat.min_le_left _ _)
  split at hc
  ·rename_i h0
   cases hc
   rw [h0] at hf
   simp only [Nat.zero_mul,List.take_zero] at hf
   have wY:Nat.min m n=0:=h0
   have key:∃ a' c',d'=.slice a' n c':=by cases hd <;> exact ⟨_,_,rfl⟩
   obtain ⟨a',c',rfl⟩:=key
   refine ⟨.int .i64 0,w,?_,Fr.refl _ _ _,hs,.int _ _⟩
   cases a' <;> simp [Builtin.copy_,run_underlying ht,hlen,wY,dz,hf,storeCells,goInt]
  ·rename_i h0
   have wY:Nat.min m n=min m n:=rfl
   split at hc
   ·rename_i A o
    simp only [Option.map_eq_some_iff,Prod.mk.injEq] at hc
    obtain ⟨h1,I6,rfl,rfl⟩:=hc
    have key:∃ L c',ρ A=some L∧d'=.slice (some ⟨L.b,L.s+o,none⟩) n c':=by
     cases hd with
     |slice hA hc hn ea =>
      obtain rfl:=ea (by omega)
      exact ⟨_,_,hA,rfl⟩
     |ck hA hc cV hn hk hm ea =>
      obtain ⟨rfl,_⟩:=ea (by omega)
      exact ⟨_,_,hA,rfl⟩
    obtain ⟨L,c',hA,rfl⟩:=key
    obtain ⟨w',ez,df,dL⟩:=Rj (P:=P) hs hA (kF.take _) I6
    refine ⟨.int .i64 (min m n:Nat),w',?_,df,dL,.int _ _⟩
    simp [Builtin.copy_,run_underlying ht,hlen,wY,dz,hf,ez,goInt]
   ·cases hc
 ·cases hc

theorem znq (hT:T.Fits P) (hs:bP ρ h w) {t ty:TypeId} {x x':Value} (hx:VR ρ x x') (hc:pD T t x h=some h') :
 ∃ w',(Builtin.clear_ #[t] ty #[x']).run P w=.ok undef w'∧Fr ρ ρ h h' w w'∧bP ρ h' w':=by
 unfold pD at hc
 split at hc
 ·rename_i e a n c vf
  have ht:=hT.desc _ _ vf
  split at hc
  ·rename_i h0
   subst h0
   cases hc
   have key:∃ a' c',x'=.slice a' 0 c':=by cases hx <;> exact ⟨_,_,rfl⟩
   obtain ⟨a',c',rfl⟩:=key
   refine ⟨w,?_,Fr.refl _ _ _,hs⟩
   cases a' <;> simp [Builtin.clear_,run_underlying ht,undef]
  ·rename_i h0
   simp only [Option.bind_eq_some_iff,Prod.exists] at hc
   obtain ⟨k,uS,z,gK,hc⟩:=hc
   obtain ⟨i,zv,hi,rfl,rfl,hz,rfl,ur,sR⟩:=hT.info e k uS z gK
   split at hc
   ·rename_i A o
    have key:∃ L c',ρ A=some L∧x'=.slice (some ⟨L.b,L.s+o,none⟩) n c':=by
     cases hx with
     |slice hA hc hn ea =>
      obtain rfl:=ea (by omega)
      exact ⟨_,_,hA,rfl⟩
     |ck hA hc cV hn hk hm ea =>
      obtain ⟨rfl,_⟩:=ea (by omega)
      exact ⟨_,_,hA,rfl⟩
    obtain ⟨L,c',hA,rfl⟩:=key
    obtain ⟨w',ez,df,dL⟩:=Rj (P:=P) hs hA (cD.plain ρ (Ih sR n)) hc
    refine ⟨w',?_,df,dL⟩
    have BL:(Builtin.zeroCells zv.cells n).toList=kb zv.cells.toList n:=FC zv.cells n
    obtain ⟨n',rfl⟩:∃ n',n=n'+1:=⟨n - 1,by omega⟩
    simp [Builtin.clear_,run_underlying ht,zeroValue,typeInfo,hi,hz,BL,ez,undef]
   ·cases hc
 ·cases hc

theorem ziB (hT:T.Fits P) (hs:bP ρ h w) (bN:fI ρ h h') {t:TypeId} {l l' c c' v:Value} (hl:VR ρ l l') (hc:VR ρ c c') (hm:HA T t l c h=some (v,h')) :
 ∃ ρ' vc w',(Instr.makeSlice t l' c').run P w=.ok vc w'∧Fr ρ ρ' h h' w w'∧bP ρ' h' w'∧VR ρ' v vc:=by
 unfold HA at hm
 split at hm
 ·rename_i e k1 l k2 c vf
  cases hl
  cases hc
  have ht:=hT.desc _ _ vf
  simp only [Option.bind_eq_some_iff,Prod.exists] at hm
  obtain ⟨k,uS,z,gK,hm⟩:=hm
  obtain ⟨i,zv,hi,rfl,rfl,hz,rfl,ur,sR⟩:=hT.info e k uS z gK
  split at hm
  ·rename_i hh
   obtain ⟨h0,hlc,Wq,tL⟩:=hh
   cases hm
   have hr:=run_make (P:=P) w t e i zv ht hi hz k1 k2 l c h0 hlc (by rw [Int.mul_comm];omega) (by omega)
   have oo:zv.cells.size=i.size:=by rw [← Array.length_toList,ur]
   have wX:(madeCells zv.cells (c.toNat*i.size)).toList=kb zv.cells.toList c.toNat:=by
    rw [← oo]
    exact FC zv.cells c.toNat
   obtain ⟨ρ',hρ,df,dL⟩:=Jy (W:=w.alloc (.cells (madeCells zv.cells (c.toNat*i.size)) e)) (cs:=kb zv.cells.toList c.toNat) (m:=kb zv.cells.toList c.toNat) hs (bN _ (Nat.le_refl _) (by rw [Heap.size_push];omega)) rfl rfl rfl rfl
    (by rw [wX];exact ru (by omega) rfl (fun j _=>by rw [Nat.zero_add])) (cD.plain ρ (Ih sR _))
   refine ⟨ρ',_,_,hr,df,dL,?_⟩
   have:=VR.slice (ρ:=ρ') (o:=0) (n:=l.toNat) (c:=c.toNat) hρ (by unfold G;omega) (by omega) (fun _=>rfl)
   simpa using this
  ·cases hm
 ·cases hm

theorem zlb (off:Nat):∀ (l:List Value) (k:Nat) (cs:Array Value),off+k+l.length≤cs.size →
 ((l.zipIdx k).foldl (fun cs (x:Value × Nat)=>cs.setIfInBounds (off+x.2) x.1) cs).toList=az cs.toList (off+k) l
 | [],k,cs,_=>by simp [az]
 |v::l,k,cs,hl=>by
  simp only [List.zipIdx_cons,List.foldl_cons]
  have tU:off+k+(l.length+1)≤cs.size:=by simpa using hl
  rw [zlb off l (k+1) _ (by simp;omega)]
  apply List.ext_getElem?
  intro i
  rw [bI _ _ _ _ (by simp;omega),bI _ _ _ _ (by simp;omega)]
  simp only [Array.toList_setIfInBounds,List.getElem?_set,List.length_cons,Array.length_toList]
  by_cases h1:i < off+k
  ·rw [if_pos h1,if_pos (by omega),if_neg (by omega)]
  ·rw [if_neg h1]
   by_cases h2:i=off+k
   ·subst h2
    rw [if_pos (by omega),if_pos rfl,if_pos (by omega),if_pos (by omega)]
    simp
   ·rw [if_neg (by omega)]
    by_cases h3:i < off+k+(l.length+1)
    ·rw [if_pos (by omega),if_pos h3]
     obtain ⟨j,rfl⟩:∃ j,i=off+k+1+j:=⟨i - (off+k+1),by omega⟩
     rw [show off+k+1+j - (off+(k+1))=j by omega,show off+k+1+j - (off+k)=j+1 by omega]
     simp
    ·rw [if_neg (by omega),if_neg h3,if_neg (by omega)]

theorem Ri {place place':Nat→Option (Nat × Nat)} (hp:∀ i r,place i=some r→place' i=some r):∀ (parts dM:List (Nat × Value)) (cs oP:List Value) (ds:Array Value),
 parts.length=dM.length→(∀ (i:Nat) (x y:Nat × Value),parts[i]? = some x→dM[i]? = some y→x.1=y.1∧VR ρ x.2 y.2)→cD ρ cs ds.toList→mb place cs parts=some oP →
 ∃ SX,Instr.fill place' ds dM=some SX∧cD ρ oP SX.toList
 | [],[],cs,oP,ds,_,_,hv,hf=>by
  simp only [mb] at hf
  cases hf
  exact ⟨ds,rfl,hv⟩
 |(i,v)::parts,(j,u)::dM,cs,oP,ds,hlen,aB,hv,hf=>by
  obtain ⟨di,lT⟩:=aB 0 _ _ rfl rfl
  simp only at di lT
  subst di
  simp only [mb,Option.bind_eq_some_iff,Prod.exists] at hf
  obtain ⟨o,n,kR,hf⟩:=hf
  split at hf
  ·rename_i hc
   have ky:u.cells.size=v.cells.size:=by have:=lT.cells.1;simpa using this.symm
   have rM:ds.size=cs.length:=by have:=hv.1;simpa using this.symm
   have NH:=zlb o u.cells.toList 0 ds (by simp;omega)
   have Gf:(u.cells.zipIdx.foldl (fun cs (x:Value × Nat)=>cs.setIfInBounds (o+x.2) x.1) ds).toList=az ds.toList o u.cells.toList:=by
    rw [← Array.foldl_toList,Array.toList_zipIdx]
    simpa using NH
   have OD:cD ρ (az cs o v.cells.toList) (u.cells.zipIdx.foldl (fun cs (x:Value × Nat)=>cs.setIfInBounds (o+x.2) x.1) ds).toList:=by
    rw [Gf]
    exact hv.az o lT.cells
   obtain ⟨SX,tN,fj⟩:=Ri hp parts dM _ oP _ (by simpa using hlen) (fun i x y hx hy=>aB (i+1) x y (by simpa using hx) (by simpa using hy)) OD hf
   refine ⟨SX,?_,fj⟩
   simp only [Instr.fill,hp i _ kR]
   rw [if_neg (by simp;omega)]
   exact tN
  ·cases hf
 | [],_::_,_,_,_,hlen,_,_,_=>by simp at hlen
 |_::_,[],_,_,_,hlen,_,_,_=>by simp at hlen

theorem zhm (hT:T.Fits P):∀ (fs:List Field) (ps:List (Nat × Nat)) (w:World),R5 T fs=some ps→(fs.mapM fun f=>do pure (f.offset,← sizeOf f.type):Sem (List (Nat × Nat))).run P w=.ok ps w
 | [],ps,w,hp=>by simp only [R5] at hp;cases hp;simp
 |f::fs,ps,w,hp=>by
  simp only [R5,Option.bind_eq_some_iff,Option.map_eq_some_iff] at hp
  obtain ⟨n,hn,r,hr,rfl⟩:=hp
  rw [List.mapM_cons]
  simp only [Sem.run_bind,uD hT hn,Result.andThen_ok,Sem.run_pure]
  have ih:=zhm hT fs r w hr
  rw [ih]
  rfl

theorem znf (hT:T.Fits P) {t:TypeId} {parts dM:List (Nat × Value)} {v:Value} (hlen:parts.length=dM.length)
 (aB:∀ (i:Nat) (x y:Nat × Value),parts[i]? = some x→dM[i]? = some y→x.1=y.1∧VR ρ x.2 y.2) (hb:nV T t parts=some v) (w:World) :
 ∃ vc,(Instr.build t dM.toArray).run P w=.ok vc w∧VR ρ v vc:=by
 simp only [nV,Option.bind_eq_some_iff,Prod.exists] at hb
 obtain ⟨k,uS,z,gK,hb⟩:=hb
 obtain ⟨i,zv,hi,rfl,rfl,hz,rfl,ur,sR⟩:=hT.info t k uS z gK
 split at hb
 ·rename_i fs hd
  have ht:=hT.desc _ _ hd
  simp only [Option.bind_eq_some_iff,Option.map_eq_some_iff] at hb
  obtain ⟨ps,nj,cs,hf,rfl⟩:=hb
  obtain ⟨ds,tN,fj⟩:=Ri (ρ:=ρ) (place':=(ps.toArray[·]?)) (fun i r hr=>by simpa using hr) parts dM _ cs zv.cells hlen aB (cD.plain ρ sR) hf
  refine ⟨.agg ds,?_,?_⟩
  ·have hm:=zhm hT fs.toList ps w nj
   have wW:(fs.mapM fun f=>do pure (f.offset,← sizeOf f.type):Sem (Array (Nat × Nat))).run P w=.ok ps.toArray w:=by
    rw [Array.mapM_eq_mapM_toList]
    simp only [Sem.run_map,hm,Result.andThen_ok]
   simp only [Instr.build,zeroValue,typeInfo,Sem.run_bind,run_program,Result.andThen_ok,hi,Sem.run_pure,hz,run_underlying ht,wW,tN]
  ·have:=fj.toArray
   simpa using this
 ·rename_i n e hd
  have ht:=hT.desc _ _ hd
  simp only [Option.bind_eq_some_iff,Option.map_eq_some_iff] at hb
  obtain ⟨k,hk,cs,hf,rfl⟩:=hb
  obtain ⟨ds,tN,fj⟩:=Ri (ρ:=ρ) (place':=fun i=>some (i*k,k)) (fun i r hr=>hr) parts dM _ cs zv.cells hlen aB (cD.plain ρ sR) hf
  refine ⟨.agg ds,?_,?_⟩
  ·simp only [Instr.build,zeroValue,typeInfo,Sem.run_bind,run_program,Result.andThen_ok,hi,Sem.run_pure,hz,run_underlying ht,uD hT hk,tN]
  ·have:=fj.toArray
   simpa using this
 ·cases hb

theorem zhw (hT:T.Fits P) (hs:bP ρ h w) (bN:fI ρ h h') {t:TypeId} {len:Nat} {parts dM:List (Nat × Value)} {v:Value} (hlen:parts.length=dM.length)
 (aB:∀ (i:Nat) (x y:Nat × Value),parts[i]? = some x→dM[i]? = some y→x.1=y.1∧VR ρ x.2 y.2) (hb:oZ T t len parts h=some (v,h')) :
 ∃ ρ' vc w',(Instr.buildSlice t len dM.toArray).run P w=.ok vc w'∧Fr ρ ρ' h h' w w'∧bP ρ' h' w'∧VR ρ' v vc:=by
 unfold oZ at hb
 split at hb
 ·rename_i e hd
  have ht:=hT.desc _ _ hd
  simp only [Option.bind_eq_some_iff,Prod.exists] at hb
  obtain ⟨k,uS,z,gK,hb⟩:=hb
  obtain ⟨i,zv,hi,rfl,rfl,hz,rfl,ur,sR⟩:=hT.info e k uS z gK
  split at hb
  ·cases hb
  ·rename_i BE
   simp only [Bool.or_eq_true,decide_eq_true_eq,not_or] at BE
   obtain ⟨BE,aqX⟩:=BE
   have hG:len < G:=by unfold G;omega
   simp only [Option.map_eq_some_iff,Prod.mk.injEq] at hb
   obtain ⟨cs,hf,rfl,rfl⟩:=hb
   have oo:zv.cells.size=i.size:=by rw [← Array.length_toList,ur]
   by_cases h0:len*i.size=0
   ·have uq:kb zv.cells.toList len=[]:=by
     apply List.eq_nil_of_length_eq_zero
     rw [zmo,ur]
     exact h0
    rw [uq] at hf
    obtain ⟨ds,tN,fj⟩:=Ri (ρ:=ρ) (place':=fun j=>some (j*i.size,i.size)) (fun i r hr=>hr) parts dM _ cs #[] hlen aB (.nil ρ) hf
    obtain ⟨ρ',hρ,df,dL⟩:=Jy (W:=w.alloc (.cells ds e)) (cs:=cs) (m:=ds.toList) hs (bN _ (Nat.le_refl _) (by rw [Heap.size_push];omega)) rfl rfl rfl rfl (by rw [fj.1];exact ru (by omega) rfl (fun j _=>by rw [Nat.zero_add])) fj
    refine ⟨ρ',.slice (some ⟨w.heap.size,0,none⟩) len len,w.alloc (.cells ds e),?_,df,dL,?_⟩
    ·have Oy:¬ (16777216 < len*i.size):=by omega
     simp [Instr.buildSlice,run_underlying ht,sizeOf,typeInfo,hi,h0,Array.range_zero',tN,Go.newRow]
    ·have:=VR.slice (ρ:=ρ') (o:=0) (n:=len) (c:=len) hρ hG (Nat.le_refl _) (fun _=>rfl)
     simpa using this
   ·have wX:((Array.range (len*i.size)).map (zv.cells[· % zv.cells.size]!)).toList=kb zv.cells.toList len:=by
     have:=FC zv.cells len
     simp only [oo] at this ⊢
     exact this
    obtain ⟨ds,tN,fj⟩:=Ri (ρ:=ρ) (place':=fun j=>some (j*i.size,i.size)) (fun i r hr=>hr) parts dM _ cs ((Array.range (len*i.size)).map (zv.cells[· % zv.cells.size]!)) hlen aB
     (by rw [wX];exact cD.plain ρ (Ih sR _)) hf
    obtain ⟨ρ',hρ,df,dL⟩:=Jy (W:=w.alloc (.cells ds e)) (cs:=cs) (m:=ds.toList) hs (bN _ (Nat.le_refl _) (by rw [Heap.size_push];omega)) rfl rfl rfl rfl (by rw [fj.1];exact ru (by omega) rfl (fun j _=>by rw [Nat.zero_add])) fj
    refine ⟨ρ',.slice (some ⟨w.heap.size,0,none⟩) len len,w.alloc (.cells ds e),?_,df,dL,?_⟩
    ·have Oy:¬ (16777216 < len*i.size):=by omega
     simp only [Instr.buildSlice,Sem.run_bind,run_underlying ht,Result.andThen_ok,sizeOf,typeInfo,run_program,hi,Sem.run_pure,gt_iff_lt]
     simp [Oy,h0,zeroValue,typeInfo,hi,hz,tN,Go.newRow]
    ·have:=VR.slice (ρ:=ρ') (o:=0) (n:=len) (c:=len) hρ hG (Nat.le_refl _) (fun _=>rfl)
     simpa using this
 ·cases hb

end
end Go.Am
namespace Go.Am
open Go.RowKit

section
variable {P:Program} {T:bK} {ρ:cE} {h h':Heap} {w:World}

theorem WM {x y:Value} {hi i:Nat} (cW:VR ρ x y) (hb:yf x hi=some i) {pM:Nat} (hle:hi≤pM) (code:BoundsCode) (w:World):(Instr.sliceBound y pM code).run P w=.ok i w∧i≤hi:=by
 cases cW with
 |int k n =>
  simp only [yf] at hb
  split at hb
  ·rename_i hc
   cases hb
   have wF:0≤n∧n≤(pM:Int):=⟨hc.1,by omega⟩
   exact ⟨by simp [Instr.sliceBound,asIntOf,wF],by omega⟩
  ·cases hb
 |_=>simp [yf] at hb

def rC (ρ:cE):Option Value→Option Value→Prop
 |none,none=>True
 |some x,some y=>VR ρ x y
 |_,_=>False

theorem Rf {len cap Fy l' h' m':Nat} {l h m ll hh mm:Option Value} (hl:rC ρ l ll) (wN:rC ρ h hh) (hm:rC ρ m mm) (hb:rq len cap l h m=some (l',h',m')) (hlen:len≤cap) (oX:cap≤Fy) (pS:Bool) (w:World) :
 (Instr.sliceBounds pS len Fy ll hh mm).run P w=.ok (l',h',if m.isSome then m' else Fy) w∧l'≤h'∧h'≤m'∧m'≤cap:=by
 simp only [rq,Option.bind_eq_some_iff,Option.some.injEq,Prod.mk.injEq] at hb
 obtain ⟨m1,iL,h1,yr,l1,fT,rfl,rfl,rfl⟩:=hb
 have xD:∀ (code:BoundsCode),(match ll with|some v=>Instr.sliceBound v h1 code|none=>(pure 0:Sem Nat)).run P w=.ok l1 w∧l1≤h1:=by
  intro code
  cases l with
  |none=>cases ll with
   |none=>simp only [Option.some.injEq] at fT;subst fT;exact ⟨rfl,Nat.zero_le _⟩
   |some v=>exact hl.elim
  |some x=>cases ll with
   |none=>exact hl.elim
   |some v=>exact WM hl fT (Nat.le_refl _) code w
 cases m with
 |none =>
  cases mm with
  |some v=>exact hm.elim
  |none =>
   simp only [Option.some.injEq] at iL
   subst iL
   cases h with
   |none=>cases hh with
    |some v=>exact wN.elim
    |none =>
     simp only [Option.some.injEq] at yr
     subst yr
     obtain ⟨k1,k2⟩:=xD .sliceB
     refine ⟨?_,k2,hlen,Nat.le_refl _⟩
     simp only [Instr.sliceBounds,Sem.run_bind,Sem.run_pure,Result.andThen_ok,Option.isSome_none,Bool.false_eq_true,if_false]
     cases ll with
     |none =>
      have e:l1=0:=by have:=k1;simp at this;exact this.symm
      simp [e]
     |some u =>
      have e:(Instr.sliceBound u len .sliceB).run P w=.ok l1 w:=k1
      simp only [Sem.run_bind,e,Result.andThen_ok,Sem.run_pure]
   |some x=>cases hh with
    |none=>exact wN.elim
    |some v =>
     have DB:=WM (P:=P) wN yr oX (if pS then BoundsCode.sliceAcap else .sliceAlen) w
     obtain ⟨k1,k2⟩:=xD .sliceB
     refine ⟨?_,k2,DB.2,Nat.le_refl _⟩
     simp only [Instr.sliceBounds,Sem.run_bind,Sem.run_pure,Result.andThen_ok,Option.isSome_none,Bool.false_eq_true,if_false,DB.1]
     cases ll with
     |none =>
      have e:l1=0:=by have:=k1;simp at this;exact this.symm
      simp [e]
     |some u =>
      have e:(Instr.sliceBound u h1 .sliceB).run P w=.ok l1 w:=k1
      simp only [Sem.run_bind,e,Result.andThen_ok,Sem.run_pure]
 |some q =>
  cases mm with
  |none=>exact hm.elim
  |some v =>
   have X7:=WM (P:=P) hm iL oX (if pS then BoundsCode.slice3Acap else .slice3Alen) w
   cases h with
   |none=>cases yr
   |some x=>cases hh with
    |none=>exact wN.elim
    |some v' =>
     have DB:=WM (P:=P) wN yr (Nat.le_refl _) BoundsCode.slice3B w
     obtain ⟨k1,k2⟩:=xD .slice3C
     refine ⟨?_,k2,DB.2,X7.2⟩
     simp only [Instr.sliceBounds,Sem.run_bind,Result.andThen_ok,Option.isSome_some,if_true,X7.1,DB.1]
     cases ll with
     |none =>
      have e:l1=0:=by have:=k1;simp at this;exact this.symm
      simp [e]
     |some u =>
      have e:(Instr.sliceBound u h1 .slice3C).run P w=.ok l1 w:=k1
      simp only [Sem.run_bind,e,Result.andThen_ok,Sem.run_pure]

theorem zoV (hT:T.Fits P) {t:TypeId} {x y v:Value} {l hi m ll hh mm:Option Value} (cW:VR ρ x y) (hl:rC ρ l ll) (wN:rC ρ hi hh) (hm:rC ρ m mm) (hs:ki T t x l hi m=some v) (w:World) :
 ∃ vc,(Instr.sliceAt t y ll hh mm).run P w=.ok vc w∧VR ρ v vc:=by
 unfold ki at hs
 split at hs
 ·rename_i s hd
  cases cW
  have ht:=hT.desc _ _ hd
  split at hs
  ·cases hs
  ·rename_i Tl
   have yv:m=none:=by cases m <;> simp_all
   subst yv
   have Bw:mm=none:=by cases mm with|none=>rfl|some _=>exact hm.elim
   subst Bw
   simp only [Option.map_eq_some_iff,Prod.exists] at hs
   obtain ⟨l',h',m',hb,rfl⟩:=hs
   obtain ⟨k1,k2,k3,k4⟩:=Rf (P:=P) (m:=none) (mm:=none) hl wN trivial hb (Nat.le_refl _) (Nat.le_refl _) false w
   refine ⟨_,?_,.string _⟩
   simp [Instr.sliceAt,Instr.slice,run_underlying ht,k1]
 ·rename_i n e A o hd
  cases cW with
  |ptr hA =>
   rename_i L
   have ht:=hT.desc _ _ hd
   simp only [Option.bind_eq_some_iff,Option.map_eq_some_iff,Prod.exists] at hs
   obtain ⟨l',h',m',hb,k,hk,rfl⟩:=hs
   have hnG:n < G:=by
    rcases Nat.lt_or_ge n G with aR|kQ
    ·exact aR
    ·rw [if_neg (by omega)] at hb;cases hb
   rw [if_pos hnG] at hb
   obtain ⟨k1,k2,k3,k4⟩:=Rf (P:=P) hl wN hm hb (Nat.le_refl _) (Nat.le_refl _) false w
   have Ah:(if m.isSome then m' else n)=m':=by
    cases m with
    |some _=>rfl
    |none =>
     simp only [rq,Option.bind_eq_some_iff,Option.some.injEq,Prod.mk.injEq] at hb
     obtain ⟨m1,iL,h1,yr,l1,fT,rfl,rfl,rfl⟩:=hb
     simp [iL]
   rw [Ah] at k1
   have dz:=uD hT hk w
   refine ⟨.slice (some (if m'=l' then ⟨L.b,L.s+o,none⟩ else (⟨L.b,L.s+o,none⟩:Addr).add (l'*k))) (h' - l') (m' - l'),?_,?_⟩
   ·simp only [Instr.sliceAt,Sem.run_bind,run_underlying ht,Result.andThen_ok,Instr.sureAddr,Sem.run_pure,k1,dz]
   ·by_cases hG:m' - l' < G
    ·refine .slice hA hG (by omega) (fun h0=>?_)
     rw [if_neg (by omega),if_neg (by omega),Addr.add_mid,Nat.add_assoc]
    ·exfalso
     omega
 ·rename_i e a n c hd
  have ht:=hT.desc _ _ hd
  simp only [Option.bind_eq_some_iff] at hs
  obtain ⟨k,hk,hs⟩:=hs
  have dz:=uD hT hk w
  split at hs
  ·rename_i hcG
   simp only [Option.bind_eq_some_iff,Prod.exists] at hs
   obtain ⟨l',h',m',hb,hs⟩:=hs
   have Ah:(if m.isSome then m' else c)=m':=by
    cases m with
    |some _=>rfl
    |none =>
     simp only [rq,Option.bind_eq_some_iff,Option.some.injEq,Prod.mk.injEq] at hb
     obtain ⟨m1,iL,h1,yr,l1,fT,rfl,rfl,rfl⟩:=hb
     simp [iL]
   cases cW with
   |dt =>
    obtain ⟨k1,k2,k3,k4⟩:=Rf (P:=P) hl wN hm hb (Nat.le_refl _) (Nat.le_refl _) true w
    rw [Ah] at k1
    simp only [Option.some.injEq] at hs
    subst hs
    have e1:h' - l'=0:=by omega
    have e2:m' - l'=0:=by omega
    refine ⟨.slice none (h' - l') (m' - l'),?_,by rw [e1,e2];exact .dt⟩
    simp [Instr.sliceAt,Instr.slice,run_underlying ht,k1,dz]
   |slice hA hc hn ea =>
    rename_i A o L ad
    obtain ⟨k1,k2,k3,k4⟩:=Rf (P:=P) hl wN hm hb hn (Nat.le_refl _) true w
    rw [Ah] at k1
    simp only [Option.some.injEq] at hs
    subst hs
    refine ⟨.slice (if m'=l' then some ad else some (ad.add (l'*k))) (h' - l') (m' - l'),?_,?_⟩
    ·simp [Instr.sliceAt,Instr.slice,run_underlying ht,k1,dz]
    ·have hx:(if m'=l' then some ad else some (ad.add (l'*k)))=some (if m'=l' then ad else ad.add (l'*k)):=by split <;> rfl
     rw [hx]
     refine .slice hA (by omega) (by omega) (fun h0=>?_)
     rw [if_neg (by omega),if_neg (by omega),ea (by omega),Addr.add_mid,Nat.add_assoc]
   |ck hA hc cV hn jW DP ea=>omega
  ·rename_i hcG
   split at hs
   ·rename_i A o
    split at hs
    ·rename_i fS
     simp only [Option.map_eq_some_iff,Prod.exists] at hs
     obtain ⟨l',h',m',hb,rfl⟩:=hs
     cases cW with
     |slice hA hc hn ea=>omega
     |ck hA hc cV hn jW DP ea =>
      rename_i c' L ad
      obtain ⟨k1,k2,k3,k4⟩:=Rf (P:=P) hl wN hm hb hn cV true w
      cases m with
      |some q =>
       simp only [Option.isSome_some,if_true] at k1
       refine ⟨.slice (if m'=l' then some ad else some (ad.add (l'*k))) (h' - l') (m' - l'),?_,?_⟩
       ·simp [Instr.sliceAt,Instr.slice,run_underlying ht,k1,dz]
       ·have hx:(if m'=l' then some ad else some (ad.add (l'*k)))=some (if m'=l' then ad else ad.add (l'*k)):=by split <;> rfl
        rw [hx]
        have aR:c % G < G:=Nat.mod_lt _ (by unfold G;omega)
        refine .slice hA (by omega) (by omega) (fun h0=>?_)
        rw [if_neg (by omega),if_neg (by omega),(ea (by omega)).1,Addr.add_mid,Nat.add_assoc]
      |none =>
       simp only [Option.isSome_none,Bool.false_eq_true,if_false] at k1
       have iL:m'=c % G:=by
        simp only [rq,Option.bind_eq_some_iff,Option.some.injEq,Prod.mk.injEq] at hb
        obtain ⟨m1,iL,h1,yr,l1,fT,rfl,rfl,rfl⟩:=hb
        exact iL.symm
       subst iL
       refine ⟨.slice (if c'=l' then some ad else some (ad.add (l'*k))) (h' - l') (c' - l'),?_,?_⟩
       ·simp [Instr.sliceAt,Instr.slice,run_underlying ht,k1,dz]
       ·have hx:(if c'=l' then some ad else some (ad.add (l'*k)))=some (if c'=l' then ad else ad.add (l'*k)):=by split <;> rfl
        rw [hx]
        have aR:c % G < G:=Nat.mod_lt _ (by unfold G;omega)
        have jy:=CL (k:=k) (q:=c % G - l') (by omega) (by omega)
        refine .ck hA jy.1 (by rw [jy.2.1];omega) (by rw [jy.2.1];omega) (by rw [jy.2.2];omega) (by omega) (fun h0=>?_)
        obtain ⟨rfl,jV⟩:=ea (by omega)
        rw [if_neg (by omega),Addr.add_mid,jy.2.2]
        refine ⟨by rw [Nat.add_assoc],?_⟩
        rw [fS] at jV
        have e1:c'*k=l'*k+(c' - l')*k:=by rw [← Nat.add_mul];congr 1;omega
        omega
    ·cases hs
   ·cases hs
 ·cases hs

theorem ziA (hT:T.Fits P) {t:TypeId} {x y i j v:Value} (cW:VR ρ x y) (di:VR ρ i j) (hs:fW T t x i=some v) (w:World) :
 ∃ vc,(Instr.indexAt t y j).run P w=.ok vc w∧VR ρ v vc:=by
 unfold fW at hs
 split at hs
 ·rename_i k i
  cases di
  split at hs
  ·rename_i n e A o hd
   cases cW with
   |ptr hA =>
    rename_i L
    have ht:=hT.desc _ _ hd
    split at hs
    ·rename_i hi
     simp only [Option.map_eq_some_iff] at hs
     obtain ⟨q,hq,rfl⟩:=hs
     refine ⟨.pointer (some ⟨L.b,L.s+(o+i.toNat*q),none⟩),?_,.ptr hA⟩
     simp [Instr.indexAt,asIntOf,run_underlying ht,Instr.sureAddr,hi,uD hT hq,Addr.add_mid,Nat.add_assoc]
    ·cases hs
  ·rename_i e A o n c hd
   have ht:=hT.desc _ _ hd
   split at hs
   ·rename_i hi
    simp only [Option.map_eq_some_iff] at hs
    obtain ⟨q,hq,rfl⟩:=hs
    have key:∃ L c',ρ A=some L∧y=.slice (some ⟨L.b,L.s+o,none⟩) n c':=by
     cases cW with
     |slice hA hc hn ea =>
      obtain rfl:=ea (by omega)
      exact ⟨_,_,hA,rfl⟩
     |ck hA hc cV hn hk hm ea =>
      obtain ⟨rfl,_⟩:=ea (by omega)
      exact ⟨_,_,hA,rfl⟩
    obtain ⟨L,c',hA,rfl⟩:=key
    refine ⟨.pointer (some ⟨L.b,L.s+(o+i.toNat*q),none⟩),?_,.ptr hA⟩
    simp [Instr.indexAt,asIntOf,run_underlying ht,hi,uD hT hq,Addr.add_mid,Nat.add_assoc]
   ·cases hs
  ·cases hs
 ·cases hs

theorem ziz (hT:T.Fits P) {t:TypeId} {x y v:Value} {f:Nat} (cW:VR ρ x y) (hs:dg T t x f=some v) (w:World) :
 ∃ vc,(Instr.fieldAt t y f).run P w=.ok vc w∧VR ρ v vc:=by
 unfold dg at hs
 split at hs
 ·rename_i fs A o hd
  cases cW with
  |ptr hA =>
   rename_i L
   have ht:=hT.desc _ _ hd
   simp only [Option.bind_eq_some_iff] at hs
   obtain ⟨fl,hf,n,hn,hs⟩:=hs
   split at hs
   ·cases hs
   ·rename_i h0
    cases hs
    refine ⟨.pointer (some ⟨L.b,L.s+(o+fl.offset),none⟩),?_,.ptr hA⟩
    simp [Instr.fieldAt,run_underlying ht,hf,Instr.sureAddr,fieldPlace,uD hT hn,h0,Addr.add_mid,Nat.add_assoc]
 ·cases hs

theorem zjR (hT:T.Fits P) {t:TypeId} {cs:List Value} {ds:Array Value} {o:Nat} {v:Value} (hv:cD ρ cs ds.toList) (hs:aN T t cs o=some v) (w:World) :
 ∃ vc,(part t ds o).run P w=.ok vc w∧VR ρ v vc:=by
 simp only [aN,aq,Option.bind_eq_some_iff,Option.map_eq_some_iff] at hs
 obtain ⟨g,⟨d,hd,hg⟩,hs⟩:=hs
 have ht:=hT.desc _ _ hd
 have oU:(isAgg t).run P w=.ok g w:=by
  unfold isAgg
  rw [Sem.run_bind,run_underlying ht w]
  cases d <;> simp_all
 cases g with
 |true =>
  simp only [if_true,Option.bind_eq_some_iff,Option.map_eq_some_iff] at hs
  obtain ⟨n,hn,l,hl,rfl⟩:=hs
  obtain ⟨d',nJ,vq⟩:=hv.cut hl
  refine ⟨.agg d'.toArray,?_,vq.toArray⟩
  have hx:ds.extract o (o+n)=d'.toArray:=by
   unfold cut at nJ
   split at nJ
   ·cases nJ
    apply Array.ext'
    simp [List.take_drop]
   ·cases nJ
  simp [part,oU,uD hT hn,hx]
 |false =>
  simp only [Bool.false_eq_true,if_false] at hs
  obtain ⟨u,hu,lT⟩:=hv.get hs
  refine ⟨u,?_,lT⟩
  have yz:ds[o]? = some u:=by simpa using hu
  simp [part,oU,yz]

theorem znX (hT:T.Fits P) {t:TypeId} {x y v:Value} {f:Nat} (cW:VR ρ x y) (hs:EF T t x f=some v) (w:World) :
 ∃ vc,(Instr.field t y f).run P w=.ok vc w∧VR ρ v vc:=by
 unfold EF at hs
 split at hs
 ·rename_i fs cs hd
  have ht:=hT.desc _ _ hd
  simp only [Option.bind_eq_some_iff] at hs
  obtain ⟨fl,hf,hs⟩:=hs
  cases cW with
  |agg hc hh =>
   rename_i ds
   obtain ⟨vc,hr,hv⟩:=zjR hT (VR.agg hc hh).Fb hs w
   refine ⟨vc,?_,hv⟩
   simp [Instr.field,run_underlying ht,hf,asAgg,hr]
 ·cases hs

theorem zlP {op:BinOp} {t:TypeId} {x y v:Value} (hs:rp op x y=some v):iH P (binOp op t x y)=some v∧plain x=true∧plain y=true∧plain v=true∧(∃ k a,x=.int k a):=by
 unfold rp at hs
 split at hs <;> first|(cases hs;done)|(split at hs <;> first|(cases hs;done)|(rename_i hk;subst hk;cases hs;exact ⟨by simp [binOp,Op.intArith,Op.intCmp,iH,pure],rfl,rfl,rfl,_,_,rfl⟩))

theorem zpQ {t:TypeId} {d:TypeDesc} (hd:P.underlying t=some d) {x y x' y':Value} {b:Bool} (hx:VR ρ x x') (hy:VR ρ y y') (he:EO d x y=some b) (w:World) :
 (Op.equal t x' y').run P w=.ok b w∧∀ (op:BinOp),op=.eql∨op=.neq→binOp op t x' y'=(if op=.eql then (do pure (.bool (← Op.equal t x' y'))) else (do pure (.bool (!(← Op.equal t x' y'))))):=by
 have key:(∀ d0:Nat,(Op.equalIn (d0+1) t x' y').run P w=.ok b w)∧∀ (op:BinOp),op=.eql∨op=.neq→binOp op t x' y'=(if op=.eql then (do pure (.bool (← Op.equal t x' y'))) else (do pure (.bool (!(← Op.equal t x' y'))))):=by
  unfold EO at he
  split at he <;> first
   |(cases he;done)
   |(cases hx <;> cases hy <;> simp at he <;> subst he <;> exact ⟨fun d0=>by simp [Op.equalIn,run_underlying hd],by rintro op (rfl|rfl) <;> rfl⟩)
 exact ⟨key.1 9999,key.2⟩

theorem WC (op:BinOp) (t:TypeId) (x y:Operand) (a b:Value) (ha:a≠.nilIface) (oU:∀ c d,a=.agg c→b=.agg d→P.eqGuardType P.depth t=false) (w:World):(eqGuard op t x y a b).run P w=.ok () w:=by
 unfold eqGuard
 cases op <;> simp only [Bool.not_true,Bool.not_false,if_true,if_false,Bool.false_eq_true] <;> try rfl
 all_goals
  cases a <;> first|exact (ha rfl).elim|skip
 all_goals
  cases b <;> first|rfl|skip
 all_goals
  simp [oU _ _ rfl rfl]

theorem JS (hT:T.Fits P) {t:TypeId} {cs:Array Value} {o:Nat} {v:Value} (hs:aN T t cs.toList o=some v) (w:World):(part t cs o).run P w=.ok v w:=by
 simp only [aN,aq,Option.bind_eq_some_iff,Option.map_eq_some_iff] at hs
 obtain ⟨g,⟨d,hd,hg⟩,hs⟩:=hs
 have ht:=hT.desc _ _ hd
 have oU:(isAgg t).run P w=.ok g w:=by
  unfold isAgg
  rw [Sem.run_bind,run_underlying ht w]
  cases d <;> simp_all
 cases g with
 |true =>
  simp only [if_true,Option.bind_eq_some_iff,Option.map_eq_some_iff] at hs
  obtain ⟨n,hn,l,hl,rfl⟩:=hs
  have hx:cs.extract o (o+n)=l.toArray:=by
   unfold cut at hl
   split at hl
   ·cases hl
    apply Array.ext'
    simp [List.take_drop]
   ·cases hl
  simp [part,oU,uD hT hn,hx]
 |false =>
  simp only [Bool.false_eq_true,if_false] at hs
  have yz:cs[o]? = some v:=by simpa using hs
  simp [part,oU,yz]
theorem zgl (hT:T.Fits P) {E:TypeId→Value→Value→Option Bool} {d:Nat} (w:World) (hE:∀ t x y b,E t x y=some b→(Op.equalIn d t x y).run P w=.ok b w) (xs ys:Array Value) :
 ∀ (fs:List Field) (ps:List (TypeId × Nat)) (b:Bool),JD fs=some ps→CM T E xs.toList ys.toList ps=some b→(Op.eqFields d xs ys fs).run P w=.ok b w
 | [],ps,b,hp,he=>by
  cases hp
  cases he
  simp [Op.eqFields]
 |f::fs,ps,b,hp,he=>by
  simp only [JD] at hp
  split at hp
  ·cases hp
  ·rename_i hn
   simp only [Option.map_eq_some_iff] at hp
   obtain ⟨r,hr,rfl⟩:=hp
   simp only [CM,Option.bind_eq_some_iff] at he
   obtain ⟨a,ha,c,hc,q,hq,he⟩:=he
   have h1:=JS hT ha w
   have h2:=JS hT hc w
   have h3:=hE _ _ _ _ hq
   simp only [Op.eqFields]
   rw [if_pos (by simpa using hn)]
   simp only [Sem.run_bind,h1,h2,h3,Result.andThen_ok]
   cases q with
   |false =>
    simp only [Bool.false_eq_true,if_false,Option.some.injEq] at he
    subst he
    simp
   |true =>
    simp only [if_true] at he
    simpa using zgl hT w hE xs ys fs r b hr he
theorem zg4 (hT:T.Fits P) {E:TypeId→Value→Value→Option Bool} {d:Nat} (w:World) (hE:∀ t x y b,E t x y=some b→(Op.equalIn d t x y).run P w=.ok b w) (xs ys:Array Value) (e:TypeId) (k:Nat) :
 ∀ (n i:Nat) (b:Bool),CM T E xs.toList ys.toList (JR e k n i)=some b→(Op.eqItems d e k xs ys (List.range' i n)).run P w=.ok b w
 |0,i,b,he=>by
  cases he
  simp [Op.eqItems]
 |n+1,i,b,he=>by
  simp only [JR,CM,Option.bind_eq_some_iff] at he
  obtain ⟨a,ha,c,hc,q,hq,he⟩:=he
  have h1:=JS hT ha w
  have h2:=JS hT hc w
  have h3:=hE _ _ _ _ hq
  simp only [List.range'_succ,Op.eqItems,Sem.run_bind,h1,h2,h3,Result.andThen_ok]
  cases q with
  |false =>
   simp only [Bool.false_eq_true,if_false,Option.some.injEq] at he
   subst he
   simp
  |true =>
   simp only [if_true] at he
   simpa using zg4 hT w hE xs ys e k n (i+1) b he
theorem Rr (hT:T.Fits P) (w:World):∀ (d D:Nat) (t:TypeId) (x y:Value) (b:Bool),fB T d t x y=some b→(Op.equalIn (D+d) t x y).run P w=.ok b w
 |0,_,_,_,_,_,he=>by simp [fB] at he
 |d+1,D,t,x,y,b,he=>by
  unfold fB at he
  split at he
  ·rename_i a c hd
   cases he
   exact run_equalIn_bool w (D+d) t a c (hT.desc _ _ hd)
  ·rename_i q k a k' c hd
   split at he
   ·rename_i hk
    subst hk
    cases he
    exact run_equalIn_int w (D+d) t k q a c (hT.desc _ _ hd)
   ·cases he
  ·rename_i a c hd
   cases he
   rw [show D+(d+1)=(D+d)+1 from rfl,run_equalIn_string w (D+d) t a c (hT.desc _ _ hd),ByteArray.toList_eq,ByteArray.toList_eq]
  ·rename_i fs xs ys hd
   split at he
   ·rename_i hc
    simp only [Option.bind_eq_some_iff] at he
    obtain ⟨ps,hp,he⟩:=he
    have hu:=hT.desc _ _ hd
    have hf:P.fieldsOf t=fs:=by simp [Program.fieldsOf,hu]
    rw [show D+(d+1)=(D+d)+1 from rfl,run_equalIn_struct w (D+d) t xs ys (by rw [hf];exact hu) (hT.cmp t hc).1,hf]
    exact zgl hT w (fun t x y b hb=>Rr hT w d D t x y b hb) xs ys fs.toList ps b hp he
   ·cases he
  ·rename_i n e xs ys hd
   simp only [Option.bind_eq_some_iff] at he
   obtain ⟨k,hk,he⟩:=he
   have hu:=hT.desc _ _ hd
   simp only [bJ,Option.map_eq_some_iff] at hk
   obtain ⟨⟨n',b',z⟩,hi,rfl⟩:=hk
   obtain ⟨i,zv,gK,dz,_⟩:=hT.info _ _ _ _ hi
   have mI:P.cellsOf e=n':=by simp [Program.cellsOf,gK,dz]
   rw [show D+(d+1)=(D+d)+1 from rfl,run_equalIn_array w (D+d) xs ys hu gK,mI]
   have:=zg4 hT w (fun t x y b hb=>Rr hT w d D t x y b hb) xs ys e n' n 0 b he
   rw [List.range_eq_range']
   exact this
  ·cases he

theorem zsj (hT:T.Fits P) {op:BinOp} {t:TypeId} {x y x' y' v:Value} (hx:VR ρ x x') (hy:VR ρ y y') (hs:cw P T op t x y=some v) (ox oy:Operand) (w:World) :
 ∃ vc,(do eqGuard op t ox oy x' y';binOp op t x' y':Sem Value).run P w=.ok vc w∧VR ρ v vc:=by
 unfold cw at hs
 split at hs
 ·rename_i v' hf
  cases hs
  obtain ⟨h1,h2,h3,h4,k,a,rfl⟩:=zlP (P:=P) (t:=t) hf
  have e1:=hx.bM h2
  have e2:=hy.bM h3
  subst e1 e2
  refine ⟨v,?_,.dr ρ h4⟩
  rw [Sem.run_bind,WC op t ox oy (.int k a) _ (by simp) (by intro c d e;cases e) w]
  exact Rc P _ _ h1 w
 ·split at hs
  ·rename_i b hb
   simp only [Option.bind_eq_some_iff] at hb
   obtain ⟨d,hd,he⟩:=hb
   have ht:=hT.desc _ _ hd
   obtain ⟨h1,h2⟩:=zpQ ht hx hy he w
   have YF:x'≠.nilIface∧(∀ c,x'≠.agg c):=by
    unfold EO at he
    split at he <;> first|(cases he;done)|(cases hx <;> exact ⟨by simp,by simp⟩)
   have hg:=WC (P:=P) op t ox oy x' y' YF.1 (by intro c d e;exact (YF.2 c e).elim) w
   split at hs
   ·cases hs
    refine ⟨.bool b,?_,.bool _⟩
    simp only [Sem.run_bind,hg,Result.andThen_ok,h2 .eql (.inl rfl),if_true,h1,Sem.run_pure]
   ·cases hs
    refine ⟨.bool !b,?_,.bool _⟩
    simp only [Sem.run_bind,hg,Result.andThen_ok,h2 .neq (.inr rfl),reduceCtorEq,if_false,h1,Sem.run_pure]
   ·cases hs
  ·split at hs
   ·rename_i hp
    simp only [Bool.and_eq_true] at hp
    have e1:=hx.bM hp.1
    have e2:=hy.bM hp.2
    subst e1 e2
    have fin:∀ (hs:((iH P (binOp op t x' y')).bind fun v=>if plain v then some v else none)=some v) (hg:(eqGuard op t ox oy x' y').run P w=.ok () w),
     ∃ vc,(do eqGuard op t ox oy x' y';binOp op t x' y':Sem Value).run P w=.ok vc w∧VR ρ v vc:=by
     intro hs hg
     simp only [Option.bind_eq_some_iff] at hs
     obtain ⟨v1,hr,hs⟩:=hs
     split at hs
     ·rename_i hpv
      cases hs
      refine ⟨v,?_,.dr ρ hpv⟩
      simp only [Sem.run_bind,hg,Result.andThen_ok]
      exact Rc P _ _ hr w
     ·cases hs
    split at hs
    ·cases hs
    ·rename_i c d
     split at hs
     ·rename_i tQ
      have hg:=fun xs ys=>WC (P:=P) op t ox oy (.agg xs) (.agg ys) (by simp) (by intro _ _ _ _;exact (hT.cmp t tQ).2) w
      split at hs
      ·simp only [Option.map_eq_some_iff] at hs
       obtain ⟨b,hb,rfl⟩:=hs
       refine ⟨.bool b,?_,.bool _⟩
       simp only [Sem.run_bind,hg,Result.andThen_ok]
       rw [run_eql_struct,Rr hT w 20 9980 t _ _ b hb]
       rfl
      ·simp only [Option.map_eq_some_iff] at hs
       obtain ⟨b,hb,rfl⟩:=hs
       refine ⟨.bool !b,?_,.bool _⟩
       simp only [Sem.run_bind,hg,Result.andThen_ok]
       rw [run_neq_struct,Rr hT w 20 9980 t _ _ b hb]
       rfl
      ·cases hs
     ·cases hs
    ·rename_i h1 h2
     refine fin hs (WC op t ox oy _ _ ?_ ?_ w)
     ·intro e;exact h1 e
     ·intro c d e1 e2;exact (h2 c d e1 e2).elim
   ·cases hs

theorem zsN (hT:T.Fits P) (hs:bP ρ h w) {t ty:TypeId} {x y v:Value} (cW:VR ρ x y) (hl:bc T t x h=some v) (ts:List TypeId) :
 ∃ vc,(Builtin.len_ (t::ts).toArray ty #[y]).run P w=.ok vc w∧VR ρ v vc:=by
 unfold bc at hl
 split at hl
 ·rename_i s hd
  cases cW
  cases hl
  exact ⟨_,by simp [Builtin.len_,run_underlying (hT.desc _ _ hd),goInt],.int _ _⟩
 ·rename_i e a n c hd
  cases hl
  have key:∃ a' c',y=.slice a' n c':=by cases cW <;> exact ⟨_,_,rfl⟩
  obtain ⟨a',c',rfl⟩:=key
  exact ⟨_,by simp [Builtin.len_,run_underlying (hT.desc _ _ hd),goInt],.int _ _⟩
 ·rename_i a b hd
  cases cW
  cases hl
  exact ⟨_,by simp [Builtin.len_,run_underlying (hT.desc _ _ hd),goInt],.int _ _⟩
 ·rename_i a b A hd
  split at hl
  ·rename_i es clock hg
   cases hl
   cases cW with
   |map hA =>
    rename_i L
    have hb:=hs.fG A L hA
    rw [hg] at hb
    obtain ⟨ces,hc,he⟩:=hb
    refine ⟨.int .i64 (ces.size:Nat),by simp [Builtin.len_,run_underlying (hT.desc _ _ hd),goInt,getObj,Sem.run,hc],?_⟩
    have e1:(es.length:Int)=(ces.size:Int):=by have:=he.1;simp at this;omega
    rw [e1]
    exact .int _ _
  ·cases hl
 ·cases hl
end
end Go.Am
namespace Go.Am
open Go.RowKit
section
variable {P:Program} {T:bK} {ρ:cE} {h h':Heap} {w:World}

theorem zio {α:Type} (P:Program) (w:World) (l:List α) (g:α→PUnit→Sem (ForInStep PUnit)) (hf:∀ x∈l,(g x PUnit.unit).run P w=.ok (.yield PUnit.unit) w) :
 (forIn l PUnit.unit g:Sem PUnit).run P w=.ok PUnit.unit w:=by
 induction l with
 |nil=>simp
 |cons x l ih =>
  have h1:=hf x (by simp)
  have h2:=ih (fun y hy=>hf y (by simp [hy]))
  simp only [List.forIn_cons,Sem.run_bind,h1,Result.andThen_ok,h2]

theorem SZ {E:TypeId→Value→Value→Option Bool} {xs:List Value}:∀ {ps:List (TypeId × Nat)},CM T E xs xs ps=some true→∀ p∈ps,∃ a,aN T p.1 xs p.2=some a∧E p.1 a a=some true
 | [],_,p,hp=>by cases hp
 |(t,o)::r,he,p,hp=>by
  simp only [CM,Option.bind_eq_some_iff] at he
  obtain ⟨a,ha,c,hc,q,hq,he⟩:=he
  rw [ha] at hc
  cases hc
  cases q with
  |false=>simp at he
  |true =>
   simp only [if_true] at he
   rcases List.mem_cons.1 hp with rfl|hp
   ·exact ⟨a,ha,hq⟩
   ·exact SZ he p hp

theorem zgo:∀ {fs:List Field} {ps:List (TypeId × Nat)},JD fs=some ps→∀ f∈fs,(f.type,f.offset)∈ps
 | [],_,_,f,hf=>by cases hf
 |g::fs,ps,hp,f,hf=>by
  simp only [JD] at hp
  split at hp
  ·cases hp
  ·simp only [Option.map_eq_some_iff] at hp
   obtain ⟨r,hr,rfl⟩:=hp
   rcases List.mem_cons.1 hf with rfl|hf
   ·simp
   ·exact List.mem_cons_of_mem _ (zgo hr f hf)

theorem zha {e:TypeId} {k:Nat}:∀ (n i j:Nat),i≤j→j < i+n→(e,j*k)∈JR e k n i
 |0,i,j,h1,h2=>by omega
 |n+1,i,j,h1,h2=>by
  simp only [JR]
  by_cases e:i=j
  ·subst e;simp
  ·exact List.mem_cons_of_mem _ (zha n (i+1) j (by omega) (by omega))

theorem Sp (hT:T.Fits P) (w:World) (em:Bool):∀ (d D:Nat) (t:TypeId) (x y:Value),fB T d t x y=some true→y=x→(Instr.checkKey em (D+d) t x).run P w=.ok () w
 |0,_,_,_,_,he,_=>by simp [fB] at he
 |d+1,D,t,x,y,he,xu=>by
  unfold fB at he
  rw [show D+(d+1)=(D+d)+1 from rfl]
  split at he
  ·rename_i a c hd
   simp [Instr.checkKey,run_underlying (hT.desc _ _ hd)]
  ·rename_i q k a k' c hd
   simp [Instr.checkKey,run_underlying (hT.desc _ _ hd)]
  ·rename_i a c hd
   simp [Instr.checkKey,run_underlying (hT.desc _ _ hd)]
  ·rename_i fs xs ys hd
   cases xu
   split at he
   ·simp only [Option.bind_eq_some_iff] at he
    obtain ⟨ps,hp,he⟩:=he
    have aB:=SZ he
    simp only [Instr.checkKey,Sem.run_bind,run_underlying (hT.desc _ _ hd),Result.andThen_ok]
    rw [← Array.forIn_toList]
    rw [zio P w fs.toList]
    ·simp
    ·intro f hf
     obtain ⟨a,ha,hq⟩:=aB _ (zgo hp f hf)
     have h1:=Sp hT w em d D f.type a a hq rfl
     split
     ·simp only [Sem.run_bind,JS hT ha w,Result.andThen_ok,h1,Sem.run_pure]
     ·simp
   ·cases he
  ·rename_i n e xs ys hd
   cases xu
   simp only [Option.bind_eq_some_iff] at he
   obtain ⟨k,hk,he⟩:=he
   have aB:=SZ he
   simp only [Instr.checkKey,Sem.run_bind,run_underlying (hT.desc _ _ hd),Result.andThen_ok]
   simp only [Std.Legacy.Range.forIn_eq_forIn_range',Std.Legacy.Range.size,Nat.sub_zero,Nat.add_sub_cancel,Nat.div_one]
   rw [zio P w]
   ·simp
   ·intro i hi
    have pM:i < n:=by simpa using hi
    obtain ⟨a,ha,hq⟩:=aB _ (zha (e:=e) (k:=k) n 0 i (by omega) (by omega))
    have h1:=Sp hT w em d D e a a hq rfl
    simp only [Sem.run_bind,uD hT hk,JS hT ha w,Result.andThen_ok,h1,Sem.run_pure]
  ·cases he

theorem Re (hT:T.Fits P) (w:World) (em:Bool) (d D:Nat) (t:TypeId) (x:Value) (he:fB T d t x x=some true):(Instr.checkKey em (D+d) t x).run P w=.ok () w:=Sp hT w em d D t x x he rfl

theorem JE {kt:TypeId} {k:Value} (hk:uP T kt k=true):plain k=true∧fB T 20 kt k k=some true:=by
 unfold uP at hk
 split at hk
 ·rename_i hp
  refine ⟨hp,?_⟩
  split at hk
  ·rename_i b hb;rw [hb,hk]
  ·cases hk
 ·cases hk

def U3 (ρ:cE):Option (Nat × Value)→Option (Nat × Value)→Prop
 |none,none=>True
 |some (i,v),some (j,u)=>i=j∧VR ρ v u
 |_,_=>False

theorem mn.of_cons {x:MapEntry} {l m:List MapEntry} (hl:mn ρ (x::l) m):∃ y m',m=y::m'∧VR ρ x.key y.key∧VR ρ x.val y.val∧x.born=y.born∧plain x.key=true∧mn ρ l m':=by
 cases m with
 |nil=>have:=hl.1;simp at this
 |cons y m =>
  obtain ⟨h1,h2,h3,h4⟩:=hl.2 0 x y rfl rfl
  exact ⟨y,m,rfl,h1,h2,h3,h4,by have:=hl.1;simpa using this,fun i a b ha hb=>hl.2 (i+1) a b (by simpa using ha) (by simpa using hb)⟩
theorem mn.of_nil {m:List MapEntry} (hl:mn ρ [] m):m=[]:=by
 have:=hl.1
 simp at this
 exact List.eq_nil_of_length_eq_zero this.symm

theorem ztD (hT:T.Fits P) {kt:TypeId} {d:TypeDesc} (hd:P.underlying kt=some d) {x y:Value} {b c:Bool} (he:fB T 20 kt x y=some b) (hs:Instr.sameNow d x y=some c):b=c:=by
 unfold fB at he
 split at he
 ·rename_i a c' nJ
  have:=hT.desc _ _ nJ
  rw [hd] at this
  cases this
  cases he
  simpa [Instr.sameNow] using hs
 ·rename_i q k a k' c' nJ
  have:=hT.desc _ _ nJ
  rw [hd] at this
  cases this
  split at he
  ·rename_i hk
   subst hk
   cases he
   simpa [Instr.sameNow] using hs
  ·cases he
 ·rename_i a c' nJ
  have:=hT.desc _ _ nJ
  rw [hd] at this
  cases this
  cases he
  simp only [Instr.sameNow,Option.some.injEq] at hs
  rw [← hs,beq_toListBytes,ByteArray.toList_eq,ByteArray.toList_eq]
 ·rename_i fs xs ys nJ
  have:=hT.desc _ _ nJ
  rw [hd] at this
  cases this
  simp [Instr.sameNow] at hs
 ·rename_i n e xs ys nJ
  have:=hT.desc _ _ nJ
  rw [hd] at this
  cases this
  simp [Instr.sameNow] at hs
 ·cases he

theorem zla (hT:T.Fits P) {kt:TypeId} {d:TypeDesc} (hd:P.underlying kt=some d) {k:Value}:∀ (es ces:List MapEntry) (i:Nat) (r r':Option (Nat × Value)),mn ρ es ces→pV T kt k es i=some r→Instr.findNow d k ces i=some r'→U3 ρ r r'
 | [],ces,i,r,r',he,hf,hn=>by
  rw [he.of_nil] at hn
  simp only [pV,Instr.findNow,Option.some.injEq] at hf hn
  subst hf hn
  trivial
 |e::es,ces,i,r,r',he,hf,hn=>by
  obtain ⟨y,m,rfl,hk,hv,_,hp,sI⟩:=he.of_cons
  have jW:=hk.bM hp
  simp only [pV,Option.bind_eq_some_iff] at hf
  obtain ⟨b,hb,hf⟩:=hf
  simp only [Instr.findNow] at hn
  rw [jW] at hn
  cases BF:Instr.sameNow d k e.key with
  |none=>rw [BF] at hn;cases hn
  |some c =>
   have:=ztD hT hd hb BF
   subst this
   rw [BF] at hn
   cases b with
   |true =>
    simp only [if_true,Option.some.injEq] at hf hn
    subst hf hn
    exact ⟨rfl,hv⟩
   |false =>
    simp only [Bool.false_eq_true,if_false] at hf hn
    exact zla hT hd es m (i+1) r r' sI hf hn

theorem zg7 (hT:T.Fits P) (w:World) {kt:TypeId} {k:Value}:∀ (es ces:List MapEntry) (i:Nat) (r:Option (Nat × Value)),mn ρ es ces→pV T kt k es i=some r→∃ r',(Instr.findAsking kt k ces i).run P w=.ok r' w∧U3 ρ r r'
 | [],ces,i,r,he,hf=>by
  rw [he.of_nil]
  simp only [pV,Option.some.injEq] at hf
  subst hf
  exact ⟨none,by simp [Instr.findAsking],trivial⟩
 |e::es,ces,i,r,he,hf=>by
  obtain ⟨y,m,rfl,hk,hv,_,hp,sI⟩:=he.of_cons
  have jW:=hk.bM hp
  simp only [pV,Option.bind_eq_some_iff] at hf
  obtain ⟨b,hb,hf⟩:=hf
  have hq:(Op.equal kt k y.key).run P w=.ok b w:=by rw [jW];exact Rr hT w 20 9980 kt _ _ b hb
  cases b with
  |true =>
   simp only [if_true,Option.some.injEq] at hf
   subst hf
   exact ⟨some (i,y.val),by simp [Instr.findAsking,hq],rfl,hv⟩
  |false =>
   simp only [Bool.false_eq_true,if_false] at hf
   obtain ⟨r',h1,h2⟩:=zg7 hT w es m (i+1) r sI hf
   exact ⟨r',by simp [Instr.findAsking,hq,h1],h2⟩

theorem zqe (hT:T.Fits P) {kt:TypeId} {k:Value} (hk:uP T kt k=true):∃ d,P.underlying kt=some d:=by
 obtain ⟨_,h1⟩:=JE hk
 unfold fB at h1
 split at h1
 all_goals first|exact ⟨_,hT.desc _ _ ‹_›⟩|cases h1

theorem WZ (hT:T.Fits P) (w:World) {kt:TypeId} {k:Value} (hk:uP T kt k=true) {es ces:List MapEntry} {r:Option (Nat × Value)} (he:mn ρ es ces) (hf:pV T kt k es 0=some r) :
 ∃ r',(Instr.findKey kt k ces).run P w=.ok r' w∧U3 ρ r r':=by
 obtain ⟨d,hd⟩:=zqe hT hk
 cases hn:Instr.findNow d k ces 0 with
 |some r'=>exact ⟨r',by simp [Instr.findKey,run_underlying hd,hn],zla hT hd es ces 0 r r' he hf hn⟩
 |none =>
  obtain ⟨r',h1,h2⟩:=zg7 hT w es ces 0 r he hf
  exact ⟨r',by simp [Instr.findKey,run_underlying hd,hn,h1],h2⟩

theorem Xb (hT:T.Fits P) {t:TypeId} {v:Value} (hz:T.zero t=some v) (w:World):(zeroValue t).run P w=.ok v w∧VR ρ v v:=by
 obtain ⟨⟨i,hi,hiz⟩,hp⟩:=hT.zero t v hz
 exact ⟨by simp [zeroValue,typeInfo,hi,hiz],.dr ρ hp⟩

theorem zqm (hs:bP ρ h w) {x y:Value} (cW:VR ρ x y) {es:List MapEntry} (hm:SK x h=some es) :
 ∃ ces:Array MapEntry,mn ρ es ces.toList∧((y=.map none∧ces=#[])∨∃ A L clock,x=.map (some A)∧ρ A=some L∧y=.map (some L.b)∧h.get A=some (.map es clock)∧w.heap[L.b]? = some (.map ces clock)):=by
 unfold SK at hm
 split at hm
 ·cases hm
  cases cW
  exact ⟨#[],⟨rfl,by intro i x y hx;simp at hx⟩,.inl ⟨rfl,rfl⟩⟩
 ·split at hm
  ·rename_i A _ SY clock hg
   cases hm
   cases cW with
   |map hA =>
    rename_i L
    have hb:=hs.fG A L hA
    rw [hg] at hb
    obtain ⟨ces,hc,he⟩:=hb
    exact ⟨ces,he,.inr ⟨A,L,clock,rfl,hA,rfl,hg,hc⟩⟩
  ·cases hm
 ·cases hm

theorem zmq (hT:T.Fits P) (hs:bP ρ h w) {t:TypeId} {x y k k' v:Value} {ok:Bool} (cW:VR ρ x y) (hk:VR ρ k k') (hl:xX T t x k ok h=some v) :
 ∃ u,(Instr.lookup t y k' ok).run P w=.ok u w∧VR ρ v u:=by
 unfold xX at hl
 split at hl
 ·rename_i kt et hd
  split at hl
  ·rename_i lh
   simp only [Option.bind_eq_some_iff,Option.map_eq_some_iff,Prod.exists] at hl
   obtain ⟨es,zZ,r,hr,v',b,sQ,hv⟩:=hl
   have hu:=hT.desc _ _ hd
   obtain ⟨hp,gU⟩:=JE lh
   have vk:k'=k:=hk.bM hp
   subst vk
   obtain ⟨ces,he,hy⟩:=zqm hs cW zZ
   obtain ⟨r',hf,df⟩:=WZ hT w lh he hr
   have fS:∀ em,(Instr.checkKey em 10000 kt k').run P w=.ok () w:=fun em=>Re hT w em 20 9980 kt k' gU
   have DW:∀ u',VR ρ v' u'→VR ρ v (if ok then .tuple #[u',.bool b] else u'):=by
    intro u' lT
    rw [← hv]
    cases ok
    ·exact lT
    ·simp only [if_true]
     exact (cD.cons lT (.cons (.bool b) (.nil ρ))).jm
   cases r with
   |none =>
    cases r' with
    |some q=>exact df.elim
    |none =>
     simp only [Option.map_eq_some_iff,Prod.mk.injEq] at sQ
     obtain ⟨z,hz,rfl,rfl⟩:=sQ
     obtain ⟨h1,h2⟩:=Xb (ρ:=ρ) hT hz w
     refine ⟨_,?_,DW z h2⟩
     rcases hy with ⟨rfl,rfl⟩|⟨A,L,clock,_,_,rfl,_,hc⟩
     ·simp only [Instr.lookup,Sem.run_bind,run_underlying hu,Result.andThen_ok,Sem.run_pure,fS,hf,h1]
     ·have hg:(getObj L.b).run P w=.ok (.map ces clock) w:=by simp [getObj,Sem.run,hc]
      simp only [Instr.lookup,Sem.run_bind,run_underlying hu,Result.andThen_ok,Sem.run_pure,hg,fS,hf,h1]
   |some p =>
    cases r' with
    |none=>exact df.elim
    |some q =>
     obtain ⟨i,v1⟩:=p
     obtain ⟨j,u1⟩:=q
     simp only [Option.some.injEq,Prod.mk.injEq] at sQ
     obtain ⟨rfl,rfl⟩:=sQ
     refine ⟨_,?_,DW u1 df.2⟩
     rcases hy with ⟨rfl,rfl⟩|⟨A,L,clock,_,_,rfl,_,hc⟩
     ·simp only [Instr.lookup,Sem.run_bind,run_underlying hu,Result.andThen_ok,Sem.run_pure,fS,hf]
     ·have hg:(getObj L.b).run P w=.ok (.map ces clock) w:=by simp [getObj,Sem.run,hc]
      simp only [Instr.lookup,Sem.run_bind,run_underlying hu,Result.andThen_ok,Sem.run_pure,hg,fS,hf]
  ·cases hl
 ·cases hl

theorem zrX:∀ {x y:Value},Ig x y=true→x=y:=by
 intro x y hh
 unfold Ig at hh
 split at hh
 ·simpa using hh
 ·simp only [Bool.and_eq_true,decide_eq_true_eq,beq_iff_eq] at hh
  rw [hh.1,hh.2]
 ·rename_i a b
  obtain ⟨⟨a⟩⟩:=a
  obtain ⟨⟨b⟩⟩:=b
  simpa using hh
 ·cases hh
theorem zlv:∀ {l m:List Value},J7 l m=true→l=m
 | [],[],_=>rfl
 |x::l,y::m,hh=>by
  simp only [J7,Bool.and_eq_true] at hh
  rw [zrX hh.1,zlv hh.2]
 | [],_::_,hh=>by cases hh
 |_::_,[],hh=>by cases hh
theorem zlu {x y:Value} (hh:Ig x y=true) (n:Nat):Instr.sameBits n x y=true:=by
 have:=zrX hh
 subst this
 unfold Ig at hh
 split at hh
 ·simp [Instr.sameBits]
 ·simp [Instr.sameBits]
 ·simp [Instr.sameBits,beq_toListBytes]
 ·cases hh
theorem ziq:∀ {l m:List Value},J7 l m=true→∀ n,(l.zip m).all (fun (x,y)=>Instr.sameBits n x y)=true
 | [],[],_,_=>rfl
 |x::l,y::m,hh,n=>by
  simp only [J7,Bool.and_eq_true] at hh
  simp only [List.zip_cons_cons,List.all_cons,Bool.and_eq_true]
  exact ⟨zlu hh.1 n,ziq hh.2 n⟩
 | [],_::_,hh,_=>by cases hh
 |_::_,[],hh,_=>by cases hh
theorem zir {x y:Value} (hh:HJ x y=true):Instr.sameBits 10000 x y=true:=by
 unfold HJ at hh
 split at hh
 ·rename_i a b
  have h1:=ziq hh 9999
  have h2:=zlv hh
  have h3:a.size=b.size:=by rw [← Array.length_toList,h2,Array.length_toList]
  rw [Instr.sameBits,h3]
  simpa using h1
 ·exact zlu hh _

theorem zhv (hT:T.Fits P) (hs:bP ρ h w) {t:TypeId} {x y k k' v v':Value} (cW:VR ρ x y) (hk:VR ρ k k') (hv:VR ρ v v') (hl:oB T t x k v h=some h') :
 ∃ w',(Instr.mapUpdate t y k' v').run P w=.ok () w'∧Fr ρ ρ h h' w w'∧bP ρ h' w':=by
 unfold oB at hl
 split at hl
 ·rename_i kt et A hd
  split at hl
  ·rename_i es clock hg
   split at hl
   ·rename_i lh
    simp only [Option.bind_eq_some_iff] at hl
    obtain ⟨r,hr,hl⟩:=hl
    have hu:=hT.desc _ _ hd
    obtain ⟨hp,gU⟩:=JE lh
    have vk:k'=k:=hk.bM hp
    subst vk
    cases cW with
    |map hA =>
     rename_i L
     have hb:=hs.fG A L hA
     rw [hg] at hb
     obtain ⟨ces,hc,he⟩:=hb
     obtain ⟨r',hf,df⟩:=WZ hT w lh he hr
     have fS:∀ em,(Instr.checkKey em 10000 kt k').run P w=.ok () w:=fun em=>Re hT w em 20 9980 kt k' gU
     have jA:∀ o:Obj,(setObj L.b o).run P w=.ok () (w.putObj L.b o):=by
      intro o
      simp [setObj,Sem.run,hc,World.putObj]
     have aR:L.b < w.heap.size:=(Array.getElem?_eq_some_iff.1 hc).1
     have rU:∀ (b':bh) (o:Obj),pX ρ (w.putObj L.b o) L (some b')→Fr ρ ρ h (h.set A b') w (w.putObj L.b o)∧bP ρ (h.set A b') (w.putObj L.b o):=by
      intro b' o lB
      refine JB hs hA hg (by simp) (by simp) rfl rfl rfl (by simp [World.putObj]) (fun q hq=>?_) lB
      simp only [World.putObj]
      rw [Array.getElem?_setIfInBounds_ne (Ne.symm hq)]
     have oW:∀ o:Obj,(w.putObj L.b o).heap[L.b]? = some o:=by
      intro o
      simp [World.putObj,aR]
     cases r with
     |none =>
      cases r' with
      |some q=>exact df.elim
      |none =>
       simp only [Option.some.injEq] at hl
       subst hl
       refine ⟨w.putObj L.b (.map (ces.push { key:=k',val:=v',born:=clock }) (clock+1)),?_,rU _ _ ⟨_,oW _,?_⟩⟩
       ·simp [Instr.mapUpdate,run_underlying hu,getObj,Sem.run,hc,fS,hf,jA]
       ·refine ⟨by simp [he.1],fun i a b ha hb=>?_⟩
        have hlen:=he.1
        rw [Array.toList_push] at hb
        rcases Nat.lt_trichotomy i es.length with h1|h1|h1
        ·rw [List.getElem?_append_left h1] at ha
         rw [List.getElem?_append_left (by omega)] at hb
         exact he.2 i a b ha hb
        ·rw [List.getElem?_append_right (by omega)] at ha
         rw [List.getElem?_append_right (by omega)] at hb
         have e1:i - es.length=0:=by omega
         have e2:i - ces.toList.length=0:=by omega
         rw [e1] at ha
         rw [e2] at hb
         simp at ha hb
         subst ha hb
         exact ⟨.dr ρ hp,hv,rfl,hp⟩
        ·rw [List.getElem?_append_right (by omega)] at ha
         have:i - es.length=(i - es.length - 1)+1:=by omega
         rw [this] at ha
         simp at ha
     |some q =>
      obtain ⟨i,v1⟩:=q
      cases r' with
      |none=>exact df.elim
      |some q' =>
       obtain ⟨j,u1⟩:=q'
       obtain ⟨rfl,_⟩:=df
       simp only [Option.bind_eq_some_iff] at hl
       obtain ⟨e,NA,hl⟩:=hl
       split at hl
       ·rename_i iE
        cases hl
        have iK:i < ces.size:=by
         have h1:=(List.getElem?_eq_some_iff.1 NA).1
         have:=he.1
         simp at this
         omega
        obtain ⟨k1,k2,k3,k4⟩:=he.2 i e ces[i] NA (by simp)
        have Bv:ces[i].key=e.key:=k1.bM k4
        have wE:=zir iE
        refine ⟨w.putObj L.b (.map (ces.modify i fun e=>{ e with key:=k',val:=v' }) clock),?_,rU _ _ ⟨_,oW _,?_⟩⟩
        ·simp [Instr.mapUpdate,run_underlying hu,getObj,Sem.run,hc,fS,hf,jA,Instr.keyThatStays,Bv,wE,iK]
        ·refine ⟨by simp [he.1],fun q a b ha hb=>?_⟩
         rw [Array.toList_modify] at hb
         rw [List.getElem?_modify] at ha hb
         by_cases hq:i=q
         ·subst hq
          simp only [if_true,Option.map_eq_map,Option.map_eq_some_iff] at ha hb
          obtain ⟨a0,Nf,rfl⟩:=ha
          obtain ⟨b0,Nl,rfl⟩:=hb
          obtain ⟨_,_,h3,_⟩:=he.2 i a0 b0 Nf Nl
          exact ⟨.dr ρ hp,hv,h3,hp⟩
         ·simp only [if_neg hq] at ha hb
          exact he.2 q a b (by simpa using ha) (by simpa using hb)
       ·cases hl
   ·cases hl
  ·cases hl
 ·cases hl

theorem FQ (hs:bP ρ h w) {A:Nat} {L:Loc} {es SY:List MapEntry} {ces zL:Array MapEntry} {clock clock':Nat} (hA:ρ A=some L) (hg:h.get A=some (.map es clock)) (hc:w.heap[L.b]? = some (.map ces clock))
 (he:mn ρ SY zL.toList):Fr ρ ρ h (h.set A (.map SY clock')) w (w.putObj L.b (.map zL clock'))∧bP ρ (h.set A (.map SY clock')) (w.putObj L.b (.map zL clock')):=by
 have aR:L.b < w.heap.size:=(Array.getElem?_eq_some_iff.1 hc).1
 refine JB hs hA hg (by simp) (by simp) rfl rfl rfl (by simp [World.putObj]) (fun q hq=>?_) ⟨zL,by simp [World.putObj,aR],he⟩
 simp only [World.putObj]
 rw [Array.getElem?_setIfInBounds_ne (Ne.symm hq)]

theorem mn.push {es:List MapEntry} {ces:Array MapEntry} (he:mn ρ es ces.toList) {k v v':Value} {clock:Nat} (hp:plain k=true) (hv:VR ρ v v') :
 mn ρ (es++[{ key:=k,val:=v,born:=clock }]) (ces.push { key:=k,val:=v',born:=clock }).toList:=by
 refine ⟨by simp [he.1],fun i a b ha hb=>?_⟩
 have hlen:=he.1
 rw [Array.toList_push] at hb
 rcases Nat.lt_trichotomy i es.length with h1|h1|h1
 ·rw [List.getElem?_append_left h1] at ha
  rw [List.getElem?_append_left (by omega)] at hb
  exact he.2 i a b ha hb
 ·rw [List.getElem?_append_right (by omega)] at ha
  rw [List.getElem?_append_right (by omega)] at hb
  have e1:i - es.length=0:=by omega
  have e2:i - ces.toList.length=0:=by omega
  rw [e1] at ha
  rw [e2] at hb
  simp at ha hb
  subst ha hb
  exact ⟨.dr ρ hp,hv,rfl,hp⟩
 ·rw [List.getElem?_append_right (by omega)] at ha
  have:i - es.length=(i - es.length - 1)+1:=by omega
  rw [this] at ha
  simp at ha

theorem mn.modify {es:List MapEntry} {ces:Array MapEntry} (he:mn ρ es ces.toList) (i:Nat) {f g:MapEntry→MapEntry}
 (o7:∀ a b,VR ρ a.key b.key→VR ρ a.val b.val→a.born=b.born→plain a.key=true→VR ρ (f a).key (g b).key∧VR ρ (f a).val (g b).val∧(f a).born=(g b).born∧plain (f a).key=true) :
 mn ρ (es.modify i f) (ces.modify i g).toList:=by
 refine ⟨by simp [he.1],fun q a b ha hb=>?_⟩
 rw [Array.toList_modify] at hb
 rw [List.getElem?_modify] at ha hb
 by_cases hq:i=q
 ·subst hq
  simp only [if_true,Option.map_eq_map,Option.map_eq_some_iff] at ha hb
  obtain ⟨a0,Nf,rfl⟩:=ha
  obtain ⟨b0,Nl,rfl⟩:=hb
  obtain ⟨h1,h2,h3,h4⟩:=he.2 i a0 b0 Nf Nl
  exact o7 a0 b0 h1 h2 h3 h4
 ·simp only [if_neg hq] at ha hb
  exact he.2 q a b (by simpa using ha) (by simpa using hb)

theorem znG (hT:T.Fits P) (hs:bP ρ h w) {t:TypeId} {x y k k' v:Value} (cW:VR ρ x y) (hk:VR ρ k k') (hl:zc T t x k h=some (v,h')) :
 ∃ u w',(Instr.mapEntry t y k').run P w=.ok u w'∧Fr ρ ρ h h' w w'∧bP ρ h' w'∧VR ρ v u:=by
 unfold zc at hl
 split at hl
 ·rename_i kt et A hd
  split at hl
  ·rename_i es clock hg
   split at hl
   ·rename_i lh
    simp only [Option.bind_eq_some_iff] at hl
    obtain ⟨r,hr,hl⟩:=hl
    have hu:=hT.desc _ _ hd
    obtain ⟨hp,gU⟩:=JE lh
    have vk:k'=k:=hk.bM hp
    subst vk
    cases cW with
    |map hA =>
     rename_i L
     have hb:=hs.fG A L hA
     rw [hg] at hb
     obtain ⟨ces,hc,he⟩:=hb
     obtain ⟨r',hf,df⟩:=WZ hT w lh he hr
     have fS:∀ em,(Instr.checkKey em 10000 kt k').run P w=.ok () w:=fun em=>Re hT w em 20 9980 kt k' gU
     have jA:∀ o:Obj,(setObj L.b o).run P w=.ok () (w.putObj L.b o):=by
      intro o
      simp [setObj,Sem.run,hc,World.putObj]
     cases r with
     |none =>
      cases r' with
      |some q=>exact df.elim
      |none =>
       simp only [Option.map_eq_some_iff,Prod.mk.injEq] at hl
       obtain ⟨z,hz,rfl,rfl⟩:=hl
       obtain ⟨z1,z2⟩:=Xb (ρ:=ρ) hT hz w
       obtain ⟨f1,f2⟩:=FQ (clock':=clock+1) hs hA hg hc (he.push (clock:=clock) hp z2)
       refine ⟨_,_,?_,f1,f2,(cD.cons z2 (.cons (.int .i64 clock) (.nil ρ))).jm⟩
       simp [Instr.mapEntry,run_underlying hu,getObj,Sem.run,hc,fS,hf,jA,z1,goInt]
     |some q =>
      obtain ⟨i,v1⟩:=q
      cases r' with
      |none=>exact df.elim
      |some q' =>
       obtain ⟨j,u1⟩:=q'
       obtain ⟨rfl,lT⟩:=df
       simp only [Option.bind_eq_some_iff] at hl
       obtain ⟨e,NA,hl⟩:=hl
       split at hl
       ·rename_i iE
        cases hl
        have iK:i < ces.size:=by
         have h1:=(List.getElem?_eq_some_iff.1 NA).1
         have:=he.1
         simp at this
         omega
        obtain ⟨k1,k2,k3,k4⟩:=he.2 i e ces[i] NA (by simp)
        have Bv:ces[i].key=e.key:=k1.bM k4
        have wE:=zir iE
        obtain ⟨f1,f2⟩:=FQ (clock':=clock) hs hA hg hc (he.modify i (f:=fun e=>{ e with key:=k' }) (g:=fun e=>{ e with key:=k' }) (fun a b h1 h2 h3 h4=>⟨.dr ρ hp,h2,h3,hp⟩))
        refine ⟨_,_,?_,f1,f2,(cD.cons lT (.cons (.int .i64 e.born) (.nil ρ))).jm⟩
        simp [Instr.mapEntry,run_underlying hu,getObj,Sem.run,hc,fS,hf,jA,Instr.keyThatStays,Bv,wE,iK,goInt,k3]
       ·cases hl
   ·cases hl
  ·cases hl
 ·cases hl

theorem ziW {s:Int}:∀ {es ces:List MapEntry} {n i:Nat},(∀ (i:Nat) a b,es[i]? = some a→ces[i]? = some b→a.born=b.born)→es.length=ces.length→Kj s es n=some i→n≤i∧ces.findIdx? (fun e=>(e.born:Int) == s)=some (i - n)
 | [],_,_,_,_,_,h=>by cases h
 |a::es,[],_,_,_,hl,_=>by cases hl
 |a::es,b::ces,n,i,hb,hl,h=>by
  have h0:=hb 0 a b rfl rfl
  rw [Kj] at h
  rw [List.findIdx?_cons]
  split at h
  ·rename_i hc
   cases h
   rw [h0] at hc
   simp [hc]
  ·rename_i hc
   rw [h0] at hc
   obtain ⟨h1,h2⟩:=ziW (es:=es) (ces:=ces) (fun i a b ha lB=>hb (i+1) a b (by simpa using ha) (by simpa using lB)) (by simpa using hl) h
   refine ⟨by omega,?_⟩
   have:¬ ((b.born:Int) == s)=true:=by simpa using hc
   rw [if_neg this,h2]
   simp
   omega

theorem zhF (hs:bP ρ h w) {t:TypeId} {x y s s' v v':Value} (cW:VR ρ x y) (yy:VR ρ s s') (hv:VR ρ v v') (hl:uF x s v h=some h') :
 ∃ w',(Instr.entryStore t y s' v').run P w=.ok () w'∧Fr ρ ρ h h' w w'∧bP ρ h' w':=by
 unfold uF at hl
 split at hl
 ·rename_i A kd b
  split at hl
  ·rename_i es clock hg
   simp only [Option.map_eq_some_iff] at hl
   obtain ⟨i,hi,rfl⟩:=hl
   cases yy
   cases cW with
   |map hA =>
    rename_i L
    have hb:=hs.fG A L hA
    rw [hg] at hb
    obtain ⟨ces,hc,he⟩:=hb
    have jA:∀ o:Obj,(setObj L.b o).run P w=.ok () (w.putObj L.b o):=by
     intro o
     simp [setObj,Sem.run,hc,World.putObj]
    obtain ⟨_,Gg⟩:=ziW (ces:=ces.toList) (fun i a b ha hb=>(he.2 i a b ha hb).2.2.1) he.1 hi
    have ab6:ces.findIdx? (fun e=>(e.born:Int) == b)=some i:=by
     cases ces with|mk l=>simpa using Gg
    obtain ⟨f1,f2⟩:=FQ (clock':=clock) hs hA hg hc (he.modify i (f:=fun e=>{ e with val:=v }) (g:=fun e=>{ e with val:=v' }) (fun a b h1 h2 h3 h4=>⟨h1,hv,h3,h4⟩))
    refine ⟨_,?_,f1,f2⟩
    simp [Instr.entryStore,getObj,Sem.run,hc,jA,asInt,asIntOf,ab6]
  ·cases hl
 ·cases hl

end
end Go.Am
namespace Go.Am
open Go.RowKit
section
variable {P:Program} {T:bK} {ρ:cE} {h h':Heap} {w:World}

theorem mn.eraseIdx {l m:List MapEntry} (hl:mn ρ l m) (i:Nat):mn ρ (l.eraseIdx i) (m.eraseIdx i):=by
 have hlen:=hl.1
 refine ⟨by rw [List.length_eraseIdx,List.length_eraseIdx,hlen],fun j x y hx hy=>?_⟩
 rw [List.getElem?_eraseIdx] at hx hy
 split at hx
 ·rename_i hj;rw [if_pos hj] at hy;exact hl.2 j x y hx hy
 ·rename_i hj;rw [if_neg hj] at hy;exact hl.2 (j+1) x y hx hy

theorem zl7 (hT:T.Fits P) (hs:bP ρ h w) {t ty:TypeId} {ts:List TypeId} {x y k k':Value} (cW:VR ρ x y) (hk:VR ρ k k') (hl:vE T t x k h=some h') :
 ∃ w',(Builtin.delete_ (t::ts).toArray ty #[y,k']).run P w=.ok (.tuple #[]) w'∧Fr ρ ρ h h' w w'∧bP ρ h' w':=by
 unfold vE at hl
 split at hl
 ·rename_i kt et hd
  split at hl
  ·rename_i lh
   cases hl
   obtain ⟨hp,gU⟩:=JE lh
   have vk:k'=k:=hk.bM hp
   subst vk
   cases cW
   refine ⟨w,?_,Fr.refl _ _ _,hs⟩
   have fS:∀ em,(Instr.checkKey em 10000 kt k').run P w=.ok () w:=fun em=>Re hT w em 20 9980 kt k' gU
   simp [Builtin.delete_,run_underlying (hT.desc _ _ hd),fS]
  ·cases hl
 ·rename_i kt et A hd
  split at hl
  ·rename_i es clock hg
   split at hl
   ·rename_i lh
    simp only [Option.bind_eq_some_iff] at hl
    obtain ⟨r,hr,hl⟩:=hl
    have hu:=hT.desc _ _ hd
    obtain ⟨hp,gU⟩:=JE lh
    have vk:k'=k:=hk.bM hp
    subst vk
    cases cW with
    |map hA =>
     rename_i L
     have hb:=hs.fG A L hA
     rw [hg] at hb
     obtain ⟨ces,hc,he⟩:=hb
     obtain ⟨r',hf,df⟩:=WZ hT w lh he hr
     have fS:∀ em,(Instr.checkKey em 10000 kt k').run P w=.ok () w:=fun em=>Re hT w em 20 9980 kt k' gU
     have dF:(getObj L.b).run P w=.ok (.map ces clock) w:=by simp [getObj,Sem.run,hc]
     have jA:∀ o:Obj,(setObj L.b o).run P w=.ok () (w.putObj L.b o):=by
      intro o
      simp [setObj,Sem.run,hc,World.putObj]
     have aR:L.b < w.heap.size:=(Array.getElem?_eq_some_iff.1 hc).1
     have rU:∀ (b':bh) (o:Obj),pX ρ (w.putObj L.b o) L (some b')→Fr ρ ρ h (h.set A b') w (w.putObj L.b o)∧bP ρ (h.set A b') (w.putObj L.b o):=by
      intro b' o lB
      refine JB hs hA hg (by simp) (by simp) rfl rfl rfl (by simp [World.putObj]) (fun q hq=>?_) lB
      simp only [World.putObj]
      rw [Array.getElem?_setIfInBounds_ne (Ne.symm hq)]
     have oW:∀ o:Obj,(w.putObj L.b o).heap[L.b]? = some o:=by
      intro o
      simp [World.putObj,aR]
     cases r with
     |none =>
      cases r' with
      |some q=>exact df.elim
      |none =>
       cases hl
       refine ⟨w.putObj L.b (.map ces clock),?_,rU _ _ ⟨_,oW _,he⟩⟩
       simp [Builtin.delete_,run_underlying hu,dF,fS,hf,jA]
     |some q =>
      obtain ⟨i,v1⟩:=q
      cases r' with
      |none=>exact df.elim
      |some q' =>
       obtain ⟨j,u1⟩:=q'
       obtain ⟨rfl,_⟩:=df
       cases hl
       refine ⟨w.putObj L.b (.map (ces.eraseIdxIfInBounds i) clock),?_,rU _ _ ⟨_,oW _,?_⟩⟩
       ·simp [Builtin.delete_,run_underlying hu,dF,fS,hf,jA]
       ·have e1:(ces.eraseIdxIfInBounds i).toList=ces.toList.eraseIdx i:=by simp
        rw [e1]
        exact he.eraseIdx i
   ·cases hl
  ·cases hl
 ·cases hl

theorem zn2 (hT:T.Fits P) {t:TypeId} {x y v:Value} (cW:VR ρ x y) (hi:EH T t x=some v) (w:World):∃ u,(Instr.makeInterface t y).run P w=.ok u w∧VR ρ v u:=by
 unfold EH at hi
 split at hi
 ·cases hi
 ·rename_i d aP hd
  cases hi
  refine ⟨.iface t y,?_,.iface t cW⟩
  have:=hT.desc _ _ hd
  simp only [Instr.makeInterface,Sem.run_bind,run_underlying this,Result.andThen_ok]
  cases d <;> first|rfl|exact (aP _ rfl).elim
 ·cases hi

theorem zsb (hT:T.Fits P) {t:TypeId} {v:Value} (hz:T.zero t=some v) (w:World):(zeroValue t).run P w=.ok v w:=(Xb (ρ:=fun _=>none) hT hz w).1

theorem zlO (hT:T.Fits P) {t xt:TypeId} {x y v:Value} {ok:Bool} (cW:VR ρ x y) (hi:HM T x t ok=some v) (w:World):∃ u,(Instr.typeAssert y xt t ok).run P w=.ok u w∧VR ρ v u:=by
 unfold HM at hi
 split at hi
 ·cases hi
 ·rename_i d aP hd
  have hu:=hT.desc _ _ hd
  have BA:∀ ms,d≠.interface ms:=fun ms e=>aP ms e
  have DH:∀ z,T.zero t=some z→VR ρ (.tuple #[z,.bool false]) (.tuple #[z,.bool false]):=fun z hz=>(cD.cons (Xb (ρ:=ρ) hT hz w).2 (.cons (.bool false) (.nil ρ))).jm
  split at hi
  ·rename_i t' v'
   cases cW with
   |iface _ cW =>
    rename_i y'
    split at hi
    ·rename_i e
     subst e
     cases hi
     refine ⟨if ok then .tuple #[y',.bool true] else y',?_,?_⟩
     ·simp only [Instr.typeAssert,Sem.run_bind,run_underlying hu,Result.andThen_ok]
      cases d <;> first|(exact (BA _ rfl).elim)|simp
     ·cases ok
      ·exact cW
      ·exact (cD.cons cW (.cons (.bool true) (.nil ρ))).jm
    ·rename_i e
     split at hi
     ·rename_i dy
      simp only [Option.map_eq_some_iff] at hi
      obtain ⟨z,hz,rfl⟩:=hi
      refine ⟨_,?_,DH z hz⟩
      simp only [Instr.typeAssert,Sem.run_bind,run_underlying hu,Result.andThen_ok]
      cases d <;> first|(exact (BA _ rfl).elim)|simp [e,dy,zsb hT hz]
     ·cases hi
  ·cases cW
   split at hi
   ·rename_i dy
    simp only [Option.map_eq_some_iff] at hi
    obtain ⟨z,hz,rfl⟩:=hi
    refine ⟨_,?_,DH z hz⟩
    simp only [Instr.typeAssert,Sem.run_bind,run_underlying hu,Result.andThen_ok]
    cases d <;> first|(exact (BA _ rfl).elim)|simp [dy,zsb hT hz]
   ·cases hi
  ·cases hi
 ·cases hi

def XE (ρ:cE):gH→Place→Prop
 | .val v,.val u=>VR ρ v u
 | .var p,.var a=>VR ρ p (.pointer (some a))
 |_,_=>False

theorem zhc (hT:T.Fits P) (hs:bP ρ h w) {t:TypeId} {p v:Value} {a:Addr} (hp:VR ρ p (.pointer (some a))) (hl:dI T t p h=some v):∃ u,(loadVar t a).run P w=.ok u w∧VR ρ v u:=by
 obtain ⟨u,h1,h2⟩:=MR hT hs hp hl
 refine ⟨u,?_,h2⟩
 rw [← h1]
 simp [Instr.loadAt,Instr.sureAddr]
theorem Xf (hT:T.Fits P) (hs:bP ρ h w) {t:TypeId} {x:gH} {y:Place} {v:Value} (cW:XE ρ x y) (hg:x.get T t h=some v):∃ u,(y.get t).run P w=.ok u w∧VR ρ v u:=by
 cases x with
 |val v' =>
  cases y with
  |val u=>cases hg;exact ⟨u,rfl,cW⟩
  |var a=>exact cW.elim
 |var p =>
  cases y with
  |val u=>exact cW.elim
  |var a=>exact zhc hT hs cW hg
theorem zur {p u:Value} {s:TypeId} {f:Nat} {q:Value} (hp:VR ρ p u) (hf:dg T s p f=some q):∃ a,u=.pointer (some a)∧(asAddr u).run P w=.ok a w:=by
 unfold dg at hf
 split at hf
 ·cases hp with
  |ptr hA=>exact ⟨_,rfl,by simp [asAddr]⟩
 ·cases hf
theorem O1 (hT:T.Fits P) {s:TypeId} {fs:Array Field} {p q:Value} {a:Addr} {i:Nat} {f:Field} (hd:T.desc s=some (.struct fs)) (hi:fs[i]? = some f) (hp:VR ρ p (.pointer (some a))) (hf:dg T s p i=some q) :
 ∃ a',(fieldPlace a f).run P w=.ok a' w∧VR ρ q (.pointer (some a')):=by
 unfold dg at hf
 rw [hd] at hf
 split at hf
 ·rename_i fs' A o e1
  cases e1
  simp only [Option.bind_eq_some_iff] at hf
  obtain ⟨fl,sJ,n,hn,hf⟩:=hf
  rw [hi] at sJ
  cases sJ
  split at hf
  ·cases hf
  ·rename_i h0
   cases hf
   cases hp with
   |ptr hA =>
    rename_i L
    refine ⟨⟨L.b,L.s+(o+f.offset),none⟩,?_,.ptr hA⟩
    simp [fieldPlace,uD hT hn,h0,Addr.add_mid,Nat.add_assoc]
 ·cases hf

theorem WH (hT:T.Fits P) (hs:bP ρ h w):∀ (l:List FieldStep) (t:TypeId) (x:gH) (y:Place) (r:TypeId × gH),XE ρ x y→J4 T h l t x=some r→∃ y',(follow l t y).run P w=.ok (r.1,y') w∧XE ρ r.2 y'
 | [],t,x,y,r,cW,hf=>by cases hf;exact ⟨y,by simp [follow],cW⟩
 |s::l,t,x,y,r,cW,hf=>by
  simp only [J4] at hf
  split at hf
  ·rename_i fs hd
   simp only [Option.bind_eq_some_iff] at hf
   obtain ⟨f,hi,hf⟩:=hf
   have hu:=hT.desc _ _ hd
   split at hf
   ·rename_i vf
    simp only [Option.bind_eq_some_iff] at hf
    obtain ⟨p,hp,q,hq,hf⟩:=hf
    obtain ⟨u,h1,h2⟩:=Xf hT hs cW hp
    obtain ⟨a,rfl,h3⟩:=zur (P:=P) (w:=w) h2 hq
    obtain ⟨a',h4,h5⟩:=O1 (P:=P) (w:=w) hT hd hi h2 hq
    obtain ⟨y',h6,h7⟩:=WH hT hs l _ (.var q) (.var a') r h5 hf
    refine ⟨y',?_,h7⟩
    simp only [follow,Sem.run_bind,run_underlying hu,Result.andThen_ok,hi,vf,if_true,h1,h3,h4,h6]
   ·rename_i vf
    split at hf
    ·rename_i p
     simp only [Option.bind_eq_some_iff] at hf
     obtain ⟨q,hq,hf⟩:=hf
     cases y with
     |val u=>exact cW.elim
     |var a =>
      obtain ⟨a',h4,h5⟩:=O1 (P:=P) (w:=w) hT hd hi cW hq
      obtain ⟨y',h6,h7⟩:=WH hT hs l _ (.var q) (.var a') r h5 hf
      refine ⟨y',?_,h7⟩
      simp only [follow,Sem.run_bind,run_underlying hu,Result.andThen_ok,hi,vf,Bool.false_eq_true,if_false,h4,h6]
    ·rename_i cs
     simp only [Option.bind_eq_some_iff] at hf
     obtain ⟨v,hv,hf⟩:=hf
     cases y with
     |var a=>exact cW.elim
     |val u =>
      cases cW with
      |agg hc hh =>
       rename_i ds
       obtain ⟨vc,h4,h5⟩:=zjR (ds:=ds) hT (VR.agg hc hh).Fb hv w
       obtain ⟨y',h6,h7⟩:=WH hT hs l _ (.val v) (.val vc) r h5 hf
       refine ⟨y',?_,h7⟩
       simp only [follow,Sem.run_bind,run_underlying hu,Result.andThen_ok,hi,vf,Bool.false_eq_true,if_false,h4,h6]
    ·cases hf
  ·cases hf

theorem zj5 (hT:T.Fits P) (hs:bP ρ h w) {xt:TypeId} {x:gH} {y:Place} {ptr:Bool} {v:Value} (cW:XE ρ x y) (hr:TU T xt x ptr h=some v) (wr:Option String):∃ u,(receiverAt xt y ptr wr).run P w=.ok u w∧VR ρ v u:=by
 unfold TU at hr
 split at hr
 ·rename_i e hd
  obtain ⟨u,h1,h2⟩:=Xf hT hs cW hr
  refine ⟨u,?_,h2⟩
  simp only [receiverAt,Sem.run_bind,run_underlying (hT.desc _ _ hd),Result.andThen_ok,h1]
 ·rename_i elem hd
  simp only [Option.bind_eq_some_iff] at hr
  obtain ⟨p,hp,hr⟩:=hr
  obtain ⟨u,h1,h2⟩:=Xf hT hs cW hp
  have hpu:∃ a,u=.pointer (some a):=by
   unfold dI at hr
   split at hr
   ·cases h2 with
    |ptr hA=>exact ⟨_,rfl⟩
   ·cases hr
  obtain ⟨a,rfl⟩:=hpu
  obtain ⟨u',h3,h4⟩:=zhc hT hs h2 hr
  refine ⟨u',?_,h4⟩
  simp only [receiverAt,Sem.run_bind,run_underlying (hT.desc _ _ hd),Result.andThen_ok,h1]
  cases wr with
  |none=>simp [asAddr,h3]
  |some nm =>
   have hw:(Builtin.ssaWrapNilChk_ #[xt] xt #[.pointer (some a),strVal "",strVal nm]).run P w=.ok (.pointer (some a)) w:=rfl
   simp [hw,asAddr,h3]
 ·rename_i d p aP hd
  split at hr
  ·rename_i a
   cases hr
   cases y with
   |val u=>exact cW.elim
   |var a' =>
    refine ⟨.pointer (some a'),?_,cW⟩
    simp only [receiverAt,Sem.run_bind,run_underlying (hT.desc _ _ hd),Result.andThen_ok]
    cases d <;> first|rfl|exact (aP _ rfl).elim
  ·cases hr
 ·rename_i d aP hd
  obtain ⟨u,h1,h2⟩:=Xf hT hs cW hr
  refine ⟨u,?_,h2⟩
  simp only [receiverAt,Sem.run_bind,run_underlying (hT.desc _ _ hd),Result.andThen_ok]
  cases d <;> first|exact h1|exact (aP _ rfl).elim
 ·cases hr

theorem zms (hT:T.Fits P) (hs:bP ρ h w) {t:TypeId} {v u r:Value} {name:String} {f:FuncId} (hv:VR ρ v u) (hm:tc T t v name h=some (f,r)) (fuel:Nat):∃ r',(method (fuel+1) t u name).run P w=.ok (f,r') w∧VR ρ r r':=by
 unfold tc at hm
 simp only [Option.bind_eq_some_iff,Prod.exists] at hm
 obtain ⟨m,iL,xt,x,hf,hm⟩:=hm
 obtain ⟨i,hi,NF⟩:=hT.xE _ _ _ iL
 obtain ⟨y,h1,h2⟩:=WH hT hs m.path.toList t (.val v) (.val u) (xt,x) hv hf
 split at hm
 ·rename_i f' ptr tP
  simp only [Option.map_eq_some_iff,Prod.mk.injEq] at hm
  obtain ⟨r1,hr,rfl,rfl⟩:=hm
  obtain ⟨r',h3,h4⟩:=zj5 hT hs h2 hr (if m.path.isEmpty then some ((name.splitOn ".").getLastD name) else none)
  refine ⟨r',?_,h4⟩
  have hti:(typeInfo t).run P w=.ok i w:=by simp [typeInfo,hi]
  simp only [method,Sem.run_bind,hti,Result.andThen_ok,NF,h1,tP,h3,Sem.run_pure]
 ·cases hm

theorem zso (hT:T.Fits P) {t ty:TypeId} {x y v:Value} (cW:VR ρ x y) (hc:we T t x=some v) (ts:List TypeId) (w:World):∃ u,(Builtin.cap_ (t::ts).toArray ty #[y]).run P w=.ok u w∧VR ρ v u:=by
 unfold we at hc
 split at hc
 ·rename_i e a n c hd
  split at hc
  ·rename_i aR
   cases hc
   have key:∃ a' n',y=.slice a' n' c:=by
    cases cW with
    |dt=>exact ⟨_,_,rfl⟩
    |slice=>exact ⟨_,_,rfl⟩
    |ck h1 h2=>omega
   obtain ⟨a',n',rfl⟩:=key
   exact ⟨_,by simp [Builtin.cap_,run_underlying (hT.desc _ _ hd),goInt],.int _ _⟩
  ·cases hc
 ·cases hc

theorem zkU:∀ (l m:List Value) (bs:List UInt8),cD ρ l m→Sv l=some bs→∃ ns:List Int,m=ns.map (Value.int .u8)∧bs=ns.map fun n=>UInt8.ofNat n.toNat
 | [],m,bs,hv,hb=>by
  rw [hv.of_nil]
  cases hb
  exact ⟨[],rfl,rfl⟩
 |x::l,m,bs,hv,hb=>by
  obtain ⟨y,m',rfl,h1,h2⟩:=hv.of_cons
  cases x with
  |int k n =>
   cases k <;> simp only [Sv] at hb <;> try cases hb
   simp only [Option.map_eq_some_iff] at hb
   obtain ⟨bs',lB,rfl⟩:=hb
   cases h1
   obtain ⟨ns,rfl,rfl⟩:=zkU l m' bs' h2 lB
   exact ⟨n::ns,rfl,rfl⟩
  |_=>simp [Sv] at hb

theorem zko (hT:T.Fits P) (hs:bP ρ h w) {s d:TypeId} {x y v:Value} (cW:VR ρ x y) (hb:JV T s d x h=some v):∃ u,(convert s d y).run P w=.ok u w∧VR ρ v u:=by
 unfold JV at hb
 split at hb
 ·rename_i e a n c xh Bi
  split at hb
  ·rename_i hed
   simp only [Option.bind_eq_some_iff,Option.map_eq_some_iff] at hb
   obtain ⟨l,hl,bs,Nr,rfl⟩:=hb
   obtain ⟨a',c',m,rfl,hv,hlen,dX⟩:=Ks (P:=P) hs cW hl
   obtain ⟨ns,rfl,rfl⟩:=zkU l m bs hv Nr
   refine ⟨_,?_,.string _⟩
   rw [run_convert_bytes_string w s d e a' n c' (hT.desc _ _ xh) (hT.desc _ _ hed) (hT.desc _ _ Bi)]
   cases a' with
   |none =>
    have hn:n=0:=by cases cW;rfl
    subst hn
    have:ns=[]:=by simpa using hlen
    subst this
    rfl
   |some ad =>
    have h1:=dX w rfl n (Nat.le_refl _)
    have h2:(loadCells ad n).run P w=.ok (ns.map (Value.int .u8)).toArray w:=by
     have h3:(Builtin.firstCells 1 n (.slice (some ad) n c'))=loadCells ad (n*1):=rfl
     rw [h3,Nat.mul_one] at h1
     rw [h1]
     congr 2
     exact List.take_of_length_le (by rw [hlen,Nat.mul_one];exact Nat.le_refl _)
    rw [run_bytesToString w ad n c' ns h2,foldl_push_bytes]
    simp
  ·cases hb
 ·cases hb

theorem zku (hT:T.Fits P) (hs:bP ρ h w) (bN:fI ρ h h') {s d:TypeId} {x y v:Value} (jZ:JY T s=true) (hx:VR ρ x y) (hl:Ep T d x h=some (v,h')) :
 ∃ ρ' u w',(convert s d y).run P w=.ok u w'∧Fr ρ ρ' h h' w w'∧bP ρ' h' w'∧VR ρ' v u:=by
 have kF:P.underlying s=some .string:=by
  unfold JY at jZ
  split at jZ
  ·rename_i hd;exact hT.desc _ _ hd
  ·cases jZ
 unfold Ep at hl
 split at hl
 ·rename_i e b hd
  split at hl
  ·rename_i uS z he hi
   split at hl
   ·cases hl
   ·rename_i GS
    have dz:¬ b.size > 1152921504606846976:=fun g=>GS (.inl g)
    have Bh:e=SG:=Decidable.byContradiction fun g=>GS (.inr g)
    cases hl
    cases hx
    have dX:=Lib.run_convert_string_bytes w s d e b kF (hT.desc _ _ hd) (hT.desc _ _ he)
    have kQ:=grownCap_ge w b.size 0 e
    have hle:=grownCap_le_maxLen w b.size 0 e (by unfold maxLen;omega)
    have k8:(Lib.bytesCells w e b).size=grownCap w b.size 0 e:=by
     have Nr:b.data.size=b.size:=rfl
     simp only [Lib.bytesCells,Array.size_append,Array.size_map,Array.size_replicate,Nr]
     omega
    have hW:(Lib.bytesWorld w e b).heap=w.heap.push (.cells (Lib.bytesCells w e b) e ((Lib.bytesCells w e b).size,(Lib.bytesCells w e b).size+1)):=by
     apply Array.ext_getElem?
     intro j
     rw [Array.getElem?_push]
     by_cases hj:j=w.heap.size
     ·rw [if_pos hj,hj,Lib.bytesWorld_at_new]
     ·rw [if_neg hj]
      by_cases Ae:j < w.heap.size
      ·exact Lib.bytesWorld_at_old w e b j Ae
      ·rw [Array.getElem?_eq_none (by rw [Lib.bytesWorld_size];omega),Array.getElem?_eq_none (by omega)]
    have jy:=CL (k:=1) (q:=b.size) (by omega) (by unfold G;omega)
    obtain ⟨ρ',hρ,df,dL⟩:=zj0 (W:=Lib.bytesWorld w e b) (cs:=b.data.toList.map fun u=>Value.int .u8 u.toNat) (m:=b.data.toList.map fun u=>Value.int .u8 u.toNat) hs (bN _ (Nat.le_refl _) (by rw [Heap.size_push];omega))
     (fz:=((Lib.bytesCells w e b).size,(Lib.bytesCells w e b).size+1)) ⟨by intro j hj hh;have:=hh.1;simp at this;omega,.inl Bh⟩ hW
     (by simp [Lib.bytesWorld,World.freeze,World.alloc,World.drew,-World.alloc_eq,-World.drew_eq]) (by simp [Lib.bytesWorld,World.freeze,World.alloc,World.drew,-World.alloc_eq,-World.drew_eq]) (by simp [Lib.bytesWorld,World.freeze,World.alloc,World.drew,-World.alloc_eq,-World.drew_eq])
     (by refine ru ?_ (by simp) fun j hj=>?_
         ·simp [Lib.bytesCells]
         ·simp only [List.length_map,Array.length_toList] at hj
          rw [Nat.zero_add]
          simp only [Lib.bytesCells,Array.toList_append,Array.toList_map]
          rw [List.getElem?_append_left (by simpa using hj)])
     (by refine ⟨rfl,fun j a c ha hc=>?_⟩
         rw [ha] at hc
         cases hc
         rw [List.getElem?_map,Option.map_eq_some_iff] at ha
         obtain ⟨q,_,rfl⟩:=ha
         exact .int .u8 _)
    refine ⟨ρ',_,_,dX,df,dL,?_⟩
    refine .ck hρ jy.1 (by rw [jy.2.1];exact kQ) (by rw [jy.2.1];exact Nat.le_refl _) (by rw [jy.2.2];omega) hle (fun _=>⟨by simp,?_⟩)
    rw [jy.2.2]
    show 0+0+grownCap w b.size 0 e*1≤(Lib.bytesCells w e b).size
    rw [k8]
    omega
  ·cases hl
 ·cases hl
end
end Go.Am
namespace Go.Am
open Go.RowKit

section
variable {P:Program} {T:bK} {ρ:cE} {h h':Heap} {w:World}

theorem cC.put {e:Env} {a:Act} (he:cC ρ e a.tmps) {v u:Value} (hv:VR ρ v u) (d:Option Tmp):cC ρ (Am.put e d v) (a.put d u).tmps:=by
 cases d with
 |none=>exact he
 |some d =>
  refine ⟨by simp [Am.put,Act.put,Env.length_set,he.1],fun i=>?_⟩
  simp only [Am.put,Act.put,Env.aD]
  by_cases hi:i=d∧d < e.length
  ·rw [if_pos hi]
   obtain ⟨rfl,aR⟩:=hi
   have:(a.tmps.setIfInBounds i u).getD i undef=u:=by
    have NY:i < a.tmps.size:=by rw [← he.1];exact aR
    simp [NY]
   rw [this]
   exact hv
  ·rw [if_neg hi]
   have:(a.tmps.setIfInBounds d u).getD i undef=a.tmps.getD i undef:=by
    by_cases hid:d=i
    ·subst hid
     have:¬ d < a.tmps.size:=by rw [← he.1];exact fun aR=>hi ⟨rfl,aR⟩
     simp [this]
    ·simp [Array.getElem?_setIfInBounds_ne hid]
   rw [this]
   exact he.2 i

theorem cC.operand {e:Env} {a:Act} (he:cC ρ e a.tmps) {x:Operand} (hx:sy ρ x):VR ρ (bn e x) (a.eval x):=by
 cases x with
 |tmp t=>exact he.2 t
 |const v=>exact .dr ρ hx
 |global g =>
  obtain ⟨t,ht⟩:=hx
  exact .ptr (o:=0) ht
 |func f=>exact .func _ rfl rfl (by intro i x y hx;simp at hx) (by intro i x y hx;simp at hx)

theorem cC.operands {e:Env} {a:Act} (he:cC ρ e a.tmps) (xs:List Operand) (hx:∀ x∈xs,sy ρ x):cD ρ (xs.map (bn e)) (xs.map a.eval):=by
 induction xs with
 |nil=>exact .nil ρ
 |cons x xs ih =>
  exact .cons (he.operand (hx x (by simp))) (ih fun y hy=>hx y (by simp [hy]))

theorem cC.opt {e:Env} {a:Act} (he:cC ρ e a.tmps) {x:Option Operand} (hx:∀ y,x=some y→sy ρ y):rC ρ (x.map (bn e)) (x.map a.eval):=by
 cases x with
 |none=>trivial
 |some y=>exact he.operand (hx y rfl)

def Ca (P:Program) (ρ:cE) (h h':Heap) (w:World) (v:Value) (f:FuncId) (aG:Array Value):Prop :=
 (∃ ρ' u w',(callFunc f aG).run P w=.ok (.value u) w'∧Fr ρ ρ' h h' w w'∧bP ρ' h' w'∧VR ρ' v u) ∨
 ((callFunc f aG).run P w=.ok (.enter f aG) w∧Calls P f aG w fun ed w'=>∃ ρ' u,ed=.returned u∧Fr ρ ρ' h h' w w'∧bP ρ' h' w'∧VR ρ' v u)

def zHf (P:Program) (ρ:cE) (h h':Heap) (w:World) (v:Value) (l:Nat) (aG:Array Value):Prop :=
 ∃ f tmps assign body,(Instr.yield l aG).run P w=.ok (.round l f tmps assign body) w∧RoundIn Fence.wide 0 P l f tmps assign body w fun ed w'=>∃ ρ' u,ed=.returned u∧Fr ρ ρ' h h' w w'∧bP ρ' h' w'∧VR ρ' v u

structure CS (P:Program) (gs:List Nat) (C:Fn→List Value→Heap→Option (Value × Heap)):Prop where
 fn:∀ f args h v h',C (.func f) args h=some (v,h')→∀ ρ w (aG:Array Value),da gs ρ→bP ρ h w→fI ρ h h'→cD ρ args aG.toList→Ca P ρ h h' w v f aG
 yield:∀ A args h v h',C (.yield A) args h=some (v,h')→∀ ρ w (aG:Array Value) L,ρ A=some L→da gs ρ→bP ρ h w→fI ρ h h'→cD ρ args aG.toList→zHf P ρ h h' w v L.b aG

def Il (P:Program) (ρ:cE) (h h':Heap) (w:World) (v:Value) (r:Result Next):Prop :=
 (∃ ρ' u w',(r=.ok (.value u) w'∨(r=.ok .skip w'∧u=undef))∧Fr ρ ρ' h h' w w'∧bP ρ' h' w'∧VR ρ' v u) ∨
 (∃ f aG,r=.ok (.enter f aG) w∧Calls P f aG w fun ed w'=>∃ ρ' u,ed=.returned u∧Fr ρ ρ' h h' w w'∧bP ρ' h' w'∧VR ρ' v u) ∨
 (∃ l f tmps assign body,r=.ok (.round l f tmps assign body) w∧RoundIn Fence.wide 0 P l f tmps assign body w fun ed w'=>∃ ρ' u,ed=.returned u∧Fr ρ ρ' h h' w w'∧bP ρ' h' w'∧VR ρ' v u)

theorem World.bQ (w:World) (o:Obj):(w.alloc o).heap=w.heap.push o:=rfl

theorem Il.still (hs:bP ρ h w) {v u:Value} {r:Result Next} (hr:r=.ok (.value u) w) (hv:VR ρ v u):Il P ρ h h w v r :=
 .inl ⟨ρ,u,w,.inl hr,Fr.refl _ _ _,hs,hv⟩

theorem Rm {e:Env} {a:Act} {o:Oper} (hs:bP ρ h w) (he:cC ρ e a.tmps) (dy:kZ ρ o) {v:Value} (hp:gX P e o h=some (v,h')) (F9:(∀ x∈o.op.operands,a.eval x=bn e x)→execOp a.eval o=execOp (bn e) o) :
 Il P ρ h h' w v ((execOp a.eval o).run P w):=by
 unfold gX at hp
 split at hp
 ·rename_i aB
  have heq:∀ x∈o.op.operands,a.eval x=bn e x:=by
   intro x hx
   have h1:=List.all_eq_true.1 aB x (by simpa using hx)
   exact (he.operand (dy x (by simpa using hx))).bM h1
  rw [F9 heq]
  split at hp
  ·rename_i v' hr
   split at hp
   ·rename_i kR
    cases hp
    exact .still hs (Rc P _ _ hr w) (.dr ρ kR)
   ·cases hp
  ·cases hp
 ·cases hp

theorem zlt {v:Value} (hs:bP ρ h w) (gd:ρ h.size=none) {t:TypeId} {cs:List Value} (u:Value) (hv:cD ρ cs u.cells.toList) :
 ∃ ρ',(newVar t u).run P w=.ok ⟨w.heap.size,0,none⟩ (w.alloc (.cells u.cells t))∧Fr ρ ρ' h (newRow t cs h).2 w (w.alloc (.cells u.cells t))∧bP ρ' (newRow t cs h).2 (w.alloc (.cells u.cells t)) ∧
   VR ρ' (newRow t cs h).1 (.pointer (some ⟨w.heap.size,0,none⟩)):=by
 have _:=v
 obtain ⟨ρ',hρ,df,dL⟩:=Jy (W:=w.alloc (.cells u.cells t)) (cs:=cs) (m:=u.cells.toList) hs gd rfl rfl rfl rfl (by rw [hv.1];exact ru (by omega) rfl (fun j _=>by rw [Nat.zero_add])) hv
 refine ⟨ρ',by simp [newVar,Go.newRow],df,dL,?_⟩
 have:=VR.ptr (ρ:=ρ') (o:=0) hρ
 simpa [newRow] using this

theorem O3 (ps:Array (Nat × Operand)) (f:Operand→Value):(ps.map fun (i,x)=>(i,f x))=(ps.toList.map fun (i,x)=>(i,f x)).toArray:=by
 apply Array.ext'
 simp

theorem zoE {e:Env} {a:Act} (he:cC ρ e a.tmps) (ps:List (Nat × Operand)) (dy:∀ x∈ps.map (·.2),sy ρ x) :
 (ps.map fun (i,x)=>(i,bn e x)).length=(ps.map fun (i,x)=>(i,a.eval x)).length ∧
 ∀ (i:Nat) (x y:Nat × Value),(ps.map fun (i,x)=>(i,bn e x))[i]? = some x→(ps.map fun (i,x)=>(i,a.eval x))[i]? = some y→x.1=y.1∧VR ρ x.2 y.2:=by
 refine ⟨by simp,fun i x y hx hy=>?_⟩
 rw [List.getElem?_map,Option.map_eq_some_iff] at hx hy
 obtain ⟨⟨j,o⟩,h1,rfl⟩:=hx
 obtain ⟨⟨j',o'⟩,h2,rfl⟩:=hy
 rw [h1] at h2
 cases h2
 exact ⟨rfl,he.operand (dy o (List.mem_map.2 ⟨(j,o),List.mem_of_getElem? h1,rfl⟩))⟩

theorem Ju (hT:T.Fits P) {C:Fn→List Value→Heap→Option (Value × Heap)} {gs:List Nat} (hC:CS P gs C) (hG:da gs ρ) {e:Env} {a:Act} {o:Oper} (hs:bP ρ h w) (he:cC ρ e a.tmps) (dy:kZ ρ o) (bN:fI ρ h h') {v:Value}
 (ak:iQ P T C e o h=some (v,h')):Il P ρ h h' w v ((execOp a.eval o).run P w):=by
 have aB:∀ x∈o.op.operands.toList,sy ρ x:=dy
 unfold iQ at ak
 dsimp only at ak
 split at ak
 ·rename_i x aV
  cases ak
  refine .still (u:=a.eval x) hs (by simp [execOp,aV]) (he.operand (aB _ (by simp [aV,Op.operands])))
 ·rename_i x aV
  cases ak
  refine .still (u:=a.eval x) hs (by simp [execOp,aV]) (he.operand (aB _ (by simp [aV,Op.operands])))
 ·rename_i c x y aV
  have hc:=he.operand (aB c (by simp [aV,Op.operands]))
  have hx:=he.operand (aB x (by simp [aV,Op.operands]))
  have hy:=he.operand (aB y (by simp [aV,Op.operands]))
  split at ak
  ·rename_i t ht
   cases ak
   rw [ht] at hc
   have wF:a.eval c=.bool t:=hc.bM rfl
   refine .still (u:=if t then a.eval x else a.eval y) hs (by simp [execOp,aV,wF,asBool]) ?_
   cases t
   ·exact hy
   ·exact hx
  ·cases ak
 ·rename_i t aV
  simp only [Option.map_eq_some_iff,Prod.exists] at ak
  obtain ⟨k,uS,z,gK,ak⟩:=ak
  obtain ⟨i,zv,hi,rfl,rfl,hz,rfl,ur,sR⟩:=hT.info t k uS z gK
  have e1:v=(newRow t zv.cells.toList h).1:=(congrArg Prod.fst ak).symm
  have e2:h'=(newRow t zv.cells.toList h).2:=(congrArg Prod.snd ak).symm
  subst e1 e2
  obtain ⟨ρ',h1,h2,h3,h4⟩:=zlt (P:=P) (v:=undef) hs (bN _ (Nat.le_refl _) (Nat.lt_succ_self _)) (t:=t) zv (cD.plain ρ sR)
  refine .inl ⟨ρ',_,_,.inl ?_,h2,h3,h4⟩
  simp [execOp,aV,Instr.alloc,zeroValue,typeInfo,hi,hz,h1]
 ·rename_i t x aV
  have hx:=he.operand (aB x (by simp [aV,Op.operands]))
  simp only [Option.some.injEq] at ak
  have e1:v=(newRow t (bn e x).cells.toList h).1:=(congrArg Prod.fst ak).symm
  have e2:h'=(newRow t (bn e x).cells.toList h).2:=(congrArg Prod.snd ak).symm
  subst e1 e2
  obtain ⟨ρ',h1,h2,h3,h4⟩:=zlt (P:=P) (v:=undef) hs (bN _ (Nat.le_refl _) (Nat.lt_succ_self _)) (t:=t) (a.eval x) hx.cells
  refine .inl ⟨ρ',_,_,.inl ?_,h2,h3,h4⟩
  simp [execOp,aV,Instr.box,h1]
 ·rename_i t ps aV
  simp only [Option.map_eq_some_iff,Prod.mk.injEq] at ak
  obtain ⟨r,hr,rfl,rfl⟩:=ak
  obtain ⟨p1,p2⟩:=zoE he ps.toList (fun x hx=>aB x (by simpa [aV,Op.operands] using hx))
  obtain ⟨vc,h1,h2⟩:=znf (ρ:=ρ) hT p1 p2 hr w
  refine .still hs ?_ h2
  simp only [execOp,aV,O3,Sem.run_bind,h1,Result.andThen_ok,Sem.run_pure]
 ·rename_i t n ps aV
  obtain ⟨p1,p2⟩:=zoE he ps.toList (fun x hx=>aB x (by simpa [aV,Op.operands] using hx))
  obtain ⟨ρ',vc,w',h1,h2,h3,h4⟩:=zhw (ρ:=ρ) hT hs bN p1 p2 ak
  refine .inl ⟨ρ',vc,w',.inl ?_,h2,h3,h4⟩
  simp only [execOp,aV,O3,Sem.run_bind,h1,Result.andThen_ok,Sem.run_pure]
 ·rename_i t x aV
  have hx:=he.operand (aB x (by simp [aV,Op.operands]))
  simp only [Option.map_eq_some_iff,Prod.mk.injEq] at ak
  obtain ⟨r,hr,rfl,rfl⟩:=ak
  obtain ⟨u,h1,h2⟩:=MR hT hs hx hr
  exact .still hs (by simp [execOp,aV,h1]) h2
 ·rename_i t x y aV
  have hx:=he.operand (aB x (by simp [aV,Op.operands]))
  have hy:=he.operand (aB y (by simp [aV,Op.operands]))
  simp only [Option.map_eq_some_iff,Prod.mk.injEq] at ak
  obtain ⟨h1,hr,rfl,rfl⟩:=ak
  unfold ic at hr
  split at hr
  ·rename_i A off AB
   rw [AB] at hx
   simp only [Option.bind_eq_some_iff] at hr
   obtain ⟨n,hn,hr⟩:=hr
   split at hr
   ·rename_i dz
    generalize tK:a.eval x=ax at hx
    cases hx with
    |ptr hA =>
     rename_i L
     obtain ⟨w',ez,df,dL⟩:=Rj (P:=P) hs hA hy.cells hr
     have k8:(a.eval y).cells.size=n:=by have:=hy.cells.1;simp at this;omega
     refine .inl ⟨ρ,undef,w',.inr ⟨?_,rfl⟩,df,dL,.undef ρ⟩
     simp [execOp,aV,tK,Instr.storeAt,Instr.sureAddr,storeVar,uD hT hn,k8,ez]
   ·cases hr
  ·cases hr
 ·rename_i x aV
  have hx:=he.operand (aB x (by simp [aV,Op.operands]))
  split at ak
  ·rename_i ad AB
   cases ak
   rw [AB] at hx
   generalize tK:a.eval x=ax at hx
   cases hx with
   |ptr hA=>exact .still hs (by simp [execOp,aV,tK]) (.ptr hA)
  ·rename_i f fi ca AB
   cases ak
   rw [AB] at hx
   generalize tK:a.eval x=ax at hx
   cases hx with
   |func _ hf hc h1 h2=>exact .still hs (by simp [execOp,aV,tK]) (.func _ hf hc h1 h2)
  ·rename_i t z AB
   cases ak
   rw [AB] at hx
   generalize tK:a.eval x=ax at hx
   cases hx with
   |iface _ h1=>exact .still hs (by simp [execOp,aV,tK]) (.iface t h1)
  ·cases ak
 ·rename_i op t x y yt aV
  have hx:=he.operand (aB x (by simp [aV,Op.operands]))
  have hy:=he.operand (aB y (by simp [aV,Op.operands]))
  simp only [Option.map_eq_some_iff,Prod.mk.injEq] at ak
  obtain ⟨r,hr,rfl,rfl⟩:=ak
  obtain ⟨vc,h1,h2⟩:=zsj hT hx hy hr x y w
  refine .still hs ?_ h2
  simp only [execOp,aV]
  rw [Sem.run_bind,h1]
  rfl
 ·rename_i fn first captured aV
  split at ak
  ·rename_i f
   cases ak
   have h1:=he.operands first.toList (fun x hx=>aB x (by simp [aV,Op.operands];left;simpa using hx))
   have h2:=he.operands captured.toList (fun x hx=>aB x (by simp [aV,Op.operands];right;simpa using hx))
   refine .still (u:=.func (.func f) (first.map a.eval) (captured.map a.eval)) hs ?_ ?_
   ·simp [execOp,aV,Instr.makeFunc]
   ·refine .func _ (by simp) (by simp) (fun i x y hx hy=>h1.2 i x y ?_ ?_) (fun i x y hx hy=>h2.2 i x y ?_ ?_)
    all_goals simp at hx hy ⊢;assumption
  ·cases ak
 ·rename_i t l c aV
  have hl:=he.operand (aB l (by simp [aV,Op.operands]))
  have hc:=he.operand (aB c (by simp [aV,Op.operands]))
  obtain ⟨ρ',vc,w',h1,h2,h3,h4⟩:=ziB hT hs bN hl hc ak
  refine .inl ⟨ρ',vc,w',.inl ?_,h2,h3,h4⟩
  simp [execOp,aV,h1]
 ·rename_i t x l hi m aV
  have hx:=he.operand (aB x (by simp [aV,Op.operands]))
  have hl:=he.opt (x:=l) (fun y hy=>aB y (by subst hy;simp [aV,Op.operands]))
  have lP:=he.opt (x:=hi) (fun y hy=>aB y (by subst hy;simp [aV,Op.operands]))
  have hm:=he.opt (x:=m) (fun y hy=>aB y (by subst hy;simp [aV,Op.operands]))
  simp only [Option.map_eq_some_iff,Prod.mk.injEq] at ak
  obtain ⟨r,hr,rfl,rfl⟩:=ak
  obtain ⟨vc,h1,h2⟩:=zoV hT hx hl lP hm hr w
  exact .still hs (by simp [execOp,aV,h1]) h2
 ·rename_i s x f aV
  have hx:=he.operand (aB x (by simp [aV,Op.operands]))
  simp only [Option.map_eq_some_iff,Prod.mk.injEq] at ak
  obtain ⟨r,hr,rfl,rfl⟩:=ak
  obtain ⟨vc,h1,h2⟩:=ziz hT hx hr w
  exact .still hs (by simp [execOp,aV,h1]) h2
 ·rename_i t x f aV
  have hx:=he.operand (aB x (by simp [aV,Op.operands]))
  simp only [Option.map_eq_some_iff,Prod.mk.injEq] at ak
  obtain ⟨r,hr,rfl,rfl⟩:=ak
  obtain ⟨vc,h1,h2⟩:=znX hT hx hr w
  exact .still hs (by simp [execOp,aV,h1]) h2
 ·rename_i t x i aV
  have hx:=he.operand (aB x (by simp [aV,Op.operands]))
  have hi:=he.operand (aB i (by simp [aV,Op.operands]))
  simp only [Option.map_eq_some_iff,Prod.mk.injEq] at ak
  obtain ⟨r,hr,rfl,rfl⟩:=ak
  obtain ⟨vc,h1,h2⟩:=ziA hT hx hi hr w
  exact .still hs (by simp [execOp,aV,h1]) h2
 ·rename_i t i aV
  have ht:=he.operand (aB t (by simp [aV,Op.operands]))
  split at ak
  ·rename_i vs hte
   rw [hte] at ht
   simp only [Option.map_eq_some_iff,Prod.mk.injEq] at ak
   obtain ⟨r,hr,rfl,rfl⟩:=ak
   generalize oW:a.eval t=at_ at ht
   cases ht with
   |tuple hc hh =>
    rename_i ds
    have aR:i < vs.size:=(Array.getElem?_eq_some_iff.1 hr).1
    have hd:ds[i]? = some (ds[i]'(by omega)):=Array.getElem?_eq_getElem _
    exact .still hs (by simp [execOp,aV,oW,Instr.extract,hd]) (hh i _ _ hr hd)
  ·cases ak
 ·rename_i op t x aV
  refine Rm hs he dy ak (fun heq=>?_)
  have:=heq x (by simp [aV,Op.operands])
  simp [execOp,aV,this]
 ·rename_i s t x aV
  split at ak
  ·have hx:=he.operand (aB x (by simp [aV,Op.operands]))
   simp only [Option.map_eq_some_iff,Prod.mk.injEq] at ak
   obtain ⟨r,hr,rfl,rfl⟩:=ak
   obtain ⟨u,h1,h2⟩:=zko hT hs hx hr
   exact .still hs (by simp [execOp,aV,h1]) h2
  ·split at ak
   ·split at ak
    ·rename_i acZ
     have hx:=he.operand (aB x (by simp [aV,Op.operands]))
     obtain ⟨ρ',u,w',r1,r2,r3,r4⟩:=zku hT hs bN acZ hx ak
     exact .inl ⟨ρ',u,w',.inl (by simp [execOp,aV,r1]),r2,r3,r4⟩
    ·cases ak
   ·refine Rm hs he dy ak (fun heq=>?_)
    have:=heq x (by simp [aV,Op.operands])
    simp [execOp,aV,this]
 ·rename_i t x i aV
  refine Rm hs he dy ak (fun heq=>?_)
  have h1:=heq x (by simp [aV,Op.operands])
  have h2:=heq i (by simp [aV,Op.operands])
  simp [execOp,aV,h1,h2]
 ·rename_i c aV
  obtain ⟨callee,args,argTypes⟩:=c
  have eu:∀ x∈args.toList,sy ρ x:=fun x hx=>aB x (by simp [aV,Op.operands,Call.operands];right;simpa using hx)
  dsimp only at ak
  split at ak
  ·split at ak
   ·rename_i t u s x uh kT
    have e1:argTypes=#[t,u]:=by apply Array.ext';simpa using uh
    have e2:args=#[s,x]:=by apply Array.ext';simpa using kT
    subst e1 e2
    have h1:=he.operand (eu s (by simp))
    have h2:=he.operand (eu x (by simp))
    split at ak
    ·rename_i hu
     have Oz:SF P u:=by
      unfold pU at hu
      simp only [Bool.or_eq_true,beq_iff_eq] at hu
      rcases hu with rfl|hu
      ·have h4:=ak
       unfold hZ at h4
       split at h4
       ·rename_i e' hd;exact .inl ⟨_,hT.desc _ _ hd⟩
       ·cases h4
      ·split at hu
       ·rename_i hd;exact .inr (hT.desc _ _ hd)
       ·rename_i e' hd;exact .inl ⟨_,hT.desc _ _ hd⟩
       ·cases hu
     obtain ⟨ρ',vc,w',r1,r2,r3,r4⟩:=zgS (ty:=o.type) hT hs bN Oz h1 h2 ak
     refine .inl ⟨ρ',vc,w',.inl ?_,r2,r3,r4⟩
     simp [execOp,aV,resolve,invoke,builtin,r1]
    ·cases ak
   ·cases ak
  ·split at ak
   ·rename_i t u d s uh kT
    have e1:argTypes=#[t,u]:=by apply Array.ext';simpa using uh
    have e2:args=#[d,s]:=by apply Array.ext';simpa using kT
    subst e1 e2
    have h1:=he.operand (eu d (by simp))
    have h2:=he.operand (eu s (by simp))
    obtain ⟨vc,w',r1,r2,r3,r4⟩:=zpJ (u:=u) (ty:=o.type) hT hs h1 h2 ak
    refine .inl ⟨ρ,vc,w',.inl ?_,r2,r3,r4⟩
    simp [execOp,aV,resolve,invoke,builtin,r1]
   ·cases ak
  ·split at ak
   ·rename_i t x uh kT
    have e1:argTypes=#[t]:=by apply Array.ext';simpa using uh
    have e2:args=#[x]:=by apply Array.ext';simpa using kT
    subst e1 e2
    have h1:=he.operand (eu x (by simp))
    simp only [Option.map_eq_some_iff,Prod.mk.injEq] at ak
    obtain ⟨h2,hr,rfl,rfl⟩:=ak
    obtain ⟨w',r1,r2,r3⟩:=znq (ty:=o.type) hT hs h1 hr
    refine .inl ⟨ρ,undef,w',.inl ?_,r2,r3,.undef ρ⟩
    simp [execOp,aV,resolve,invoke,builtin,r1]
   ·cases ak
  ·split at ak
   ·rename_i t ts x uh kT
    have e2:args=#[x]:=by apply Array.ext';simpa using kT
    have e1:argTypes=(t::ts).toArray:=by apply Array.ext';simpa using uh
    subst e1 e2
    have h1:=he.operand (eu x (by simp))
    simp only [Option.map_eq_some_iff,Prod.mk.injEq] at ak
    obtain ⟨r,hr,rfl,rfl⟩:=ak
    obtain ⟨vc,r1,r2⟩:=zsN (ty:=o.type) hT hs h1 hr ts
    refine .still hs ?_ r2
    simp [execOp,aV,resolve,invoke,builtin,r1]
   ·cases ak
  ·refine Rm hs he dy ak (fun heq=>?_)
   have hm:args.map a.eval=args.map (bn e):=by
    apply Array.map_congr_left
    intro x hx
    exact heq x (by simp [aV,Op.operands,Call.operands];exact hx)
   simp [execOp,aV,resolve,hm]
  ·refine Rm hs he dy ak (fun heq=>?_)
   have hm:args.map a.eval=args.map (bn e):=by
    apply Array.map_congr_left
    intro x hx
    exact heq x (by simp [aV,Op.operands,Call.operands];exact hx)
   simp [execOp,aV,resolve,hm]
  ·split at ak
   ·rename_i t ts m k uh kT
    have e2:args=#[m,k]:=by apply Array.ext';simpa using kT
    have e1:argTypes=(t::ts).toArray:=by apply Array.ext';simpa using uh
    subst e1 e2
    have h1:=he.operand (eu m (by simp))
    have h2:=he.operand (eu k (by simp))
    simp only [Option.map_eq_some_iff,Prod.mk.injEq] at ak
    obtain ⟨h3,hr,rfl,rfl⟩:=ak
    obtain ⟨w',r1,r2,r3⟩:=zl7 (ty:=o.type) (ts:=ts) hT hs h1 h2 hr
    refine .inl ⟨ρ,undef,w',.inl ?_,r2,r3,.undef ρ⟩
    simp [execOp,aV,resolve,invoke,builtin,r1,undef]
   ·cases ak
  ·split at ak
   ·rename_i t ts x uh kT
    have e2:args=#[x]:=by apply Array.ext';simpa using kT
    have e1:argTypes=(t::ts).toArray:=by apply Array.ext';simpa using uh
    subst e1 e2
    have h1:=he.operand (eu x (by simp))
    simp only [Option.map_eq_some_iff,Prod.mk.injEq] at ak
    obtain ⟨r,hr,rfl,rfl⟩:=ak
    obtain ⟨vc,r1,r2⟩:=zso (ty:=o.type) hT h1 hr ts w
    refine .still hs ?_ r2
    simp [execOp,aV,resolve,invoke,builtin,r1]
   ·cases ak
  ·rename_i rv name
   have BC:=he.operand (aB rv (by simp [aV,Op.operands,Call.operands]))
   split at ak
   ·rename_i t x hre
    rw [hre] at BC
    generalize DA:a.eval rv=ar at BC
    simp only [Option.bind_eq_some_iff,Prod.exists] at ak
    obtain ⟨f,y,hm,ak⟩:=ak
    cases BC with
    |iface _ hx =>
     rename_i x'
     obtain ⟨y',r1,r2⟩:=zms hT hs hx hm (P.types.size+Made.depth - 1)
     have hd:P.types.size+Made.depth - 1+1=P.types.size+Made.depth:=by simp [Made.depth]
     rw [hd] at r1
     have bx:=he.operands args.toList eu
     have wK:(execOp a.eval o).run P w=(callFunc f (#[y']++args.map a.eval)).run P w:=by
      have h0:(#[Value.iface t x']++Array.map a.eval args)[0]? = some (.iface t x'):=by rw [Array.getElem?_append_left (by simp)];rfl
      have On:(program:Sem Program).run P w=.ok P w:=rfl
      have hex:(#[Value.iface t x']++Array.map a.eval args).extract 1 (#[Value.iface t x']++Array.map a.eval args).size=Array.map a.eval args:=by
       rw [Array.extract_append]
       simp
      simp only [execOp,aV,resolve,Sem.run_bind,Sem.run_pure,Result.andThen_ok,invoke,DA,h0,callMethod,On,r1,hex]
     have iC:=hC.fn f _ h v h' ak ρ w (#[y']++args.map a.eval) hG hs bN (by
      have:=cD.cons r2 bx
      simpa using this)
     rw [wK]
     rcases iC with ⟨ρ',u,w',q1,q2,q3,q4⟩|⟨q1,q2⟩
     ·exact .inl ⟨ρ',u,w',.inl q1,q2,q3,q4⟩
     ·exact .inr (.inl ⟨f,_,q1,q2⟩)
   ·cases ak
  ·rename_i f
   have hf:=he.operand (aB f (by simp [aV,Op.operands,Call.operands]))
   split at ak
   ·rename_i g first captured Gf
    rw [Gf] at hf
    generalize Bd:a.eval f=af at hf
    cases hf with
    |func _ h1 h2 h3 h4 =>
     rename_i gJ du
     have kg:cD ρ first.toList gJ.toList:=⟨by simpa using h1,fun i x y hx hy=>h3 i x y (by simpa using hx) (by simpa using hy)⟩
     have jI:cD ρ captured.toList du.toList:=⟨by simpa using h2,fun i x y hx hy=>h4 i x y (by simpa using hx) (by simpa using hy)⟩
     have bx:=he.operands args.toList eu
     have iC:=hC.fn g _ h v h' ak ρ w ((gJ++args.map a.eval)++du) hG hs bN (by
      have:=(kg.append bx).append jI
      simpa using this)
     have wK:(execOp a.eval o).run P w=(callFunc g ((gJ++args.map a.eval)++du)).run P w:=by
      simp [execOp,aV,resolve,Bd,Deferred.ofValue,invoke]
     rw [wK]
     rcases iC with ⟨ρ',u,w',r1,r2,r3,r4⟩|⟨r1,r2⟩
     ·exact .inl ⟨ρ',u,w',.inl r1,r2,r3,r4⟩
     ·exact .inr (.inl ⟨g,_,r1,r2⟩)
   ·rename_i A first captured Gf
    rw [Gf] at hf
    generalize Bd:a.eval f=af at hf
    split at ak
    ·cases hf with
     |yield hA =>
      rename_i L _
      have bx:=he.operands args.toList eu
      obtain ⟨g,tmps,assign,body,r1,r2⟩:=hC.yield A _ h v h' ak ρ w (args.map a.eval) L hA hG hs bN (by simpa using bx)
      refine .inr (.inr ⟨L.b,g,tmps,assign,body,?_,r2⟩)
      rw [← r1]
      simp [execOp,aV,resolve,Bd,Deferred.ofValue,invoke]
    ·cases ak
   ·cases ak
  ·cases ak
 ·rename_i t r aV
  have jx:∃ ρ',Fr ρ ρ' h (h.push (.map [] 0)) w (w.alloc (.map #[] 0))∧bP ρ' (h.push (.map [] 0)) (w.alloc (.map #[] 0))∧VR ρ' (.map (some h.size)) (.map (some w.heap.size))∨¬ (ρ h.size=none):=by
   by_cases hn:ρ h.size=none
   ·obtain ⟨ρ',h1,h2,h3⟩:=WK (W:=w.alloc (.map #[] 0)) (L:=⟨w.heap.size,0,0⟩) (b:=.map [] 0) hs hn (fun k hk=>by rw [Am.World.bQ,Array.getElem?_push,if_neg (by omega)]) (by rw [Am.World.bQ];simp) rfl rfl rfl (Nat.le_refl _)
     (fun ρ' _=>⟨#[],by rw [Am.World.bQ];simp,rfl,by intro i x y hx;simp at hx⟩)
    exact ⟨ρ',.inl ⟨h2,h3,.map h1⟩⟩
   ·exact ⟨ρ,.inr hn⟩
  split at ak
  ·cases ak
   obtain ⟨ρ',⟨h2,h3,h4⟩|hn⟩:=jx
   ·exact .inl ⟨ρ',_,_,.inl (by simp [execOp,aV,Instr.makeMap]),h2,h3,h4⟩
   ·exact (hn (bN _ (Nat.le_refl _) (Nat.lt_succ_self _))).elim
  ·rename_i x
   have hx:=he.operand (aB x (by simp [aV,Op.operands]))
   split at ak
   ·rename_i hd AB
    cases ak
    rw [AB] at hx
    generalize tK:a.eval x=ax at hx
    cases hx
    obtain ⟨ρ',⟨h2,h3,h4⟩|hn⟩:=jx
    ·refine .inl ⟨ρ',_,_,.inl ?_,h2,h3,h4⟩
     simp [execOp,aV,Instr.makeMap,tK,run_underlying (hT.desc _ _ hd),asInt,asIntOf]
    ·exact (hn (bN _ (Nat.le_refl _) (Nat.lt_succ_self _))).elim
   ·cases ak
 ·rename_i t x k ok aV
  have hx:=he.operand (aB x (by simp [aV,Op.operands]))
  have hk:=he.operand (aB k (by simp [aV,Op.operands]))
  simp only [Option.map_eq_some_iff,Prod.mk.injEq] at ak
  obtain ⟨r,hr,rfl,rfl⟩:=ak
  obtain ⟨u,h1,h2⟩:=zmq hT hs hx hk hr
  exact .still hs (by simp [execOp,aV,h1]) h2
 ·rename_i t m k x aV
  have hm:=he.operand (aB m (by simp [aV,Op.operands]))
  have hk:=he.operand (aB k (by simp [aV,Op.operands]))
  have hx:=he.operand (aB x (by simp [aV,Op.operands]))
  simp only [Option.map_eq_some_iff,Prod.mk.injEq] at ak
  obtain ⟨h1,hr,rfl,rfl⟩:=ak
  obtain ⟨w',r1,r2,r3⟩:=zhv hT hs hm hk hx hr
  exact .inl ⟨ρ,undef,w',.inr ⟨by simp [execOp,aV,r1],rfl⟩,r2,r3,.undef ρ⟩
 ·rename_i t m k x aV
  have hm:=he.operand (aB m (by simp [aV,Op.operands]))
  have hk:=he.operand (aB k (by simp [aV,Op.operands]))
  have hx:=he.operand (aB x (by simp [aV,Op.operands]))
  simp only [Option.map_eq_some_iff,Prod.mk.injEq] at ak
  obtain ⟨h1,hr,rfl,rfl⟩:=ak
  obtain ⟨w',r1,r2,r3⟩:=zhv hT hs hm hk hx hr
  exact .inl ⟨ρ,undef,w',.inr ⟨by simp [execOp,aV,r1],rfl⟩,r2,r3,.undef ρ⟩
 ·rename_i t m k aV
  have hm:=he.operand (aB m (by simp [aV,Op.operands]))
  have hk:=he.operand (aB k (by simp [aV,Op.operands]))
  obtain ⟨u,w',r1,r2,r3,r4⟩:=znG hT hs hm hk ak
  exact .inl ⟨ρ,u,w',.inl (by simp [execOp,aV,r1]),r2,r3,r4⟩
 ·rename_i t m k x aV
  have hm:=he.operand (aB m (by simp [aV,Op.operands]))
  have hk:=he.operand (aB k (by simp [aV,Op.operands]))
  have hx:=he.operand (aB x (by simp [aV,Op.operands]))
  simp only [Option.map_eq_some_iff,Prod.mk.injEq] at ak
  obtain ⟨h1,hr,rfl,rfl⟩:=ak
  obtain ⟨w',r1,r2,r3⟩:=zhF (P:=P) (t:=t) hs hm hk hx hr
  exact .inl ⟨ρ,undef,w',.inr ⟨by simp [execOp,aV,r1],rfl⟩,r2,r3,.undef ρ⟩
 ·rename_i t x aV
  have hx:=he.operand (aB x (by simp [aV,Op.operands]))
  simp only [Option.map_eq_some_iff,Prod.mk.injEq] at ak
  obtain ⟨r,hr,rfl,rfl⟩:=ak
  obtain ⟨u,h1,h2⟩:=zn2 hT hx hr w
  exact .still hs (by simp [execOp,aV,h1]) h2
 ·rename_i x xt t ok aV
  have hx:=he.operand (aB x (by simp [aV,Op.operands]))
  simp only [Option.map_eq_some_iff,Prod.mk.injEq] at ak
  obtain ⟨r,hr,rfl,rfl⟩:=ak
  obtain ⟨u,h1,h2⟩:=zlO (xt:=xt) hT hx hr w
  exact .still hs (by simp [execOp,aV,h1]) h2
 ·cases ak
end
end Go.Am
namespace Go.Am
open Go.RowKit

section
variable {P:Program} {T:bK} {ρ:cE} {h h':Heap} {w:World}

def WR (rl:Option Nat):Fence:={ Fence.wide with round:=rl }
theorem zkW {rl:Option Nat} {n:Nat} {f:FuncId} {args:Array Value} {R:Ending→World→Prop} (hc:Calls P f args w R):CallsIn (WR rl) n P f args w R :=
 (callsIn_wide (n:=n)).2 hc

theorem Il.wp {o:Oper} {a:Act} {v:Value} (hr:Il P ρ h h' w v ((execOp a.eval o).run P w)) (fU:∀ c,o.op≠.defer c) {K:Act→World→Prop} {Q:Exit→Act→World→Prop} {rl:Option Nat}
 (hK:∀ ρ' u w',Fr ρ ρ' h h' w w'→bP ρ' h' w'→VR ρ' v u→K (a.put o.dst u) w'):o.wpIn (WR rl) 0 P a w K Q:=by
 unfold Oper.wpIn
 refine ⟨fun _ _=>trivial,?_⟩
 rw [Oper.semAt_eq _ _ _ fU]
 rcases hr with ⟨ρ',u,w',h1,h2,h3,h4⟩|⟨f,aG,h1,h2⟩|⟨l,f,tmps,assign,body,h1,h2⟩
 ·rcases h1 with h1|⟨h1,rfl⟩
  ·rw [h1];exact hK ρ' u w' h2 h3 h4
  ·rw [h1];exact hK ρ' undef w' h2 h3 h4
 ·rw [h1]
  refine ⟨(fun hh=>by cases hh),zkW (h2.mono ?_)⟩
  rintro ed w' ⟨ρ',u,rfl,h3,h4,h5⟩
  exact hK ρ' u w' h3 h4 h5
 ·rw [h1]
  refine ⟨(fun hh=>by cases hh),RoundIn.mono h2 ?_⟩
  rintro ed w' ⟨ρ',u,rfl,h3,h4,h5⟩
  exact hK ρ' u w' h3 h4 h5

theorem Jt {C:Fn→List Value→Heap→Option (Value × Heap)} {e:Env} {o:Oper} {v:Value} (ak:iQ P T C e o h=some (v,h')):∀ c,o.op≠.defer c:=by
 intro c hc
 simp [iQ,hc] at ak

theorem zpm {ops:Array Oper} {o:Oper} {e:Env} {tmps:Array Value} (he:cC ρ e tmps):Region.wanted o (yielded ops tmps)=ma ops o e:=by
 unfold Region.wanted ma
 cases o.guard with
 |none=>rfl
 |some g =>
  obtain ⟨j,b⟩:=g
  simp only [yielded]
  cases (ops[j]?).bind (·.dst) with
  |none=>simp
  |some t =>
   simp only [Option.bind_some]
   have hv:=he.2 t
   cases ht:tmps[t]? with
   |none =>
    have hlen:tmps.size≤t:=by
     rcases Nat.lt_or_ge t tmps.size with aR|kQ
     ·rw [Array.getElem?_eq_getElem aR] at ht;cases ht
     ·exact kQ
    rw [Env.n8 e t (by rw [he.1];exact hlen)]
    rfl
   |some u =>
    have hu:tmps.getD t undef=u:=by simp [ht]
    rw [hu] at hv
    generalize e.get t=x at hv
    cases hv <;> first|rfl|(cases b <;> rename_i c <;> cases c <;> rfl)

/-! ### The plain heap does not shrink -/
structure bw (h h':Heap):Prop where
 size:h.size≤h'.size
 low:h'.low≤h.low
 get:∀ A,A < h.size→A < h'.low→h'.get A=h.get A

theorem bw.refl (h:Heap):bw h h:=⟨Nat.le_refl _,Nat.le_refl _,fun _ _ _=>rfl⟩
theorem bw.trans {h h1 h2:Heap} (a:bw h h1) (b:bw h1 h2):bw h h2 :=
 ⟨Nat.le_trans a.size b.size,Nat.le_trans b.low a.low,fun A h3 h4=>(b.get A (Nat.lt_of_lt_of_le h3 a.size) h4).trans (a.get A h3 (Nat.lt_of_lt_of_le h4 b.low))⟩
theorem bw.push (h:Heap) (b:bh):bw h (h.push b):=⟨Nat.le_succ _,Nat.le_refl _,fun A h3 _=>by rw [Heap.bu,if_neg (by omega)]⟩
theorem bw.set {h:Heap} {A:Nat} (b:bh) (hA:A < h.size):bw h (h.set A b) :=
 ⟨Nat.le_refl _,Nat.min_le_left _ _,fun A' _ h4=>by rw [Heap.bW] at h4;rw [Heap.aD _ _ _ _ hA,if_neg (by omega)]⟩

theorem Jw {A o:Nat} {vs:List Value} (hw:kj A o vs h=some h'):bw h h':=by
 unfold kj at hw
 split at hw
 ·rename_i hg
  split at hw
  ·cases hw;exact .set _ (Heap.bD hg)
  ·cases hw
 ·cases hw

theorem zgR {t:TypeId} {s x v:Value} (ha:hZ T t s x h=some (v,h')):bw h h':=by
 unfold hZ at ha
 split at ha
 ·simp only [Option.bind_eq_some_iff,Prod.exists] at ha
  obtain ⟨k,uS,z,_,m,news,_,ha⟩:=ha
  split at ha
  ·split at ha
   ·cases ha;exact .refl _
   ·split at ha
    ·cases ha
    ·split at ha
     ·split at ha
      ·split at ha
       ·simp only [Option.map_eq_some_iff,Prod.mk.injEq] at ha
        obtain ⟨h1,hw,_,rfl⟩:=ha
        exact Jw hw
       ·cases ha
      ·cases ha
     ·simp only [Option.bind_eq_some_iff] at ha
      obtain ⟨eJ,_,ha⟩:=ha
      split at ha
      ·cases ha;exact .push _ _
      ·split at ha
       ·split at ha
        ·rename_i hg
         split at ha
         ·cases ha;exact (bw.set _ (Heap.bD hg)).trans (.push _ _)
         ·cases ha
        ·cases ha
       ·cases ha
  ·cases ha
 ·cases ha

theorem zhu {t:TypeId} {x k v:Value} (hr:oB T t x k v h=some h'):bw h h':=by
 unfold oB at hr
 split at hr
 ·split at hr
  ·rename_i hg
   split at hr
   ·simp only [Option.bind_eq_some_iff] at hr
    obtain ⟨r,_,hr⟩:=hr
    split at hr
    ·simp only [Option.bind_eq_some_iff] at hr
     obtain ⟨e,_,hr⟩:=hr
     split at hr
     ·cases hr;exact .set _ (Heap.bD hg)
     ·cases hr
    ·cases hr;exact .set _ (Heap.bD hg)
   ·cases hr
  ·cases hr
 ·cases hr

theorem zkt {d:TypeId} {x v:Value} (hr:Ep T d x h=some (v,h')):bw h h':=by
 unfold Ep at hr
 split at hr
 ·split at hr
  ·split at hr
   ·cases hr
   ·cases hr;exact .push _ _
  ·cases hr
 ·cases hr
theorem znF {t:TypeId} {x k v:Value} (hr:zc T t x k h=some (v,h')):bw h h':=by
 unfold zc at hr
 split at hr
 ·split at hr
  ·rename_i hg
   split at hr
   ·simp only [Option.bind_eq_some_iff] at hr
    obtain ⟨r,_,hr⟩:=hr
    split at hr
    ·simp only [Option.bind_eq_some_iff] at hr
     obtain ⟨e,_,hr⟩:=hr
     split at hr
     ·cases hr;exact .set _ (Heap.bD hg)
     ·cases hr
    ·simp only [Option.map_eq_some_iff,Prod.mk.injEq] at hr
     obtain ⟨z,_,_,rfl⟩:=hr
     exact .set _ (Heap.bD hg)
   ·cases hr
  ·cases hr
 ·cases hr
theorem zhE {x s v:Value} (hr:uF x s v h=some h'):bw h h':=by
 unfold uF at hr
 split at hr
 ·split at hr
  ·rename_i hg
   simp only [Option.map_eq_some_iff] at hr
   obtain ⟨i,_,rfl⟩:=hr
   exact .set _ (Heap.bD hg)
  ·cases hr
 ·cases hr

theorem zl6 {t:TypeId} {x k:Value} (hr:vE T t x k h=some h'):bw h h':=by
 unfold vE at hr
 split at hr
 ·split at hr
  ·cases hr;exact .refl _
  ·cases hr
 ·split at hr
  ·rename_i hg
   split at hr
   ·simp only [Option.bind_eq_some_iff] at hr
    obtain ⟨r,_,hr⟩:=hr
    split at hr
    ·cases hr;exact .set _ (Heap.bD hg)
    ·cases hr;exact .set _ (Heap.bD hg)
   ·cases hr
  ·cases hr
 ·cases hr

def tm (C:Fn→List Value→Heap→Option (Value × Heap)):Prop:=∀ f args h v h',C f args h=some (v,h')→bw h h'

theorem Hu {C:Fn→List Value→Heap→Option (Value × Heap)} (hC:tm C) {e:Env} {o:Oper} {v:Value} (ak:iQ P T C e o h=some (v,h')):bw h h':=by
 have cP:∀ {r:Option Value},(r.map fun x=>(x,h))=some (v,h')→bw h h':=by
  intro r hr
  simp only [Option.map_eq_some_iff,Prod.mk.injEq] at hr
  obtain ⟨_,_,_,rfl⟩:=hr
  exact .refl _
 have dU:gX P e o h=some (v,h')→bw h h':=by
  intro hp
  unfold gX at hp
  split at hp
  ·split at hp
   ·split at hp
    ·cases hp;exact .refl _
    ·cases hp
   ·cases hp
  ·cases hp
 unfold iQ at ak
 dsimp only at ak
 split at ak
 ·cases ak;exact .refl _
 ·cases ak;exact .refl _
 ·split at ak
  ·cases ak;exact .refl _
  ·cases ak
 ·simp only [Option.map_eq_some_iff,Prod.exists] at ak
  obtain ⟨_,_,z,_,ak⟩:=ak
  have e2:=congrArg Prod.snd ak
  simp only at e2
  subst e2
  exact .push _ _
 ·simp only [Option.some.injEq] at ak
  have e2:=congrArg Prod.snd ak
  simp only at e2
  subst e2
  exact .push _ _
 ·exact cP ak
 ·unfold oZ at ak
  split at ak
  ·simp only [Option.bind_eq_some_iff,Prod.exists] at ak
   obtain ⟨_,_,_,_,ak⟩:=ak
   split at ak
   ·cases ak
   ·simp only [Option.map_eq_some_iff,Prod.mk.injEq] at ak
    obtain ⟨_,_,_,rfl⟩:=ak
    exact .push _ _
  ·cases ak
 ·exact cP ak
 ·simp only [Option.map_eq_some_iff,Prod.mk.injEq] at ak
  obtain ⟨h1,hr,_,rfl⟩:=ak
  unfold ic at hr
  split at hr
  ·simp only [Option.bind_eq_some_iff] at hr
   obtain ⟨_,_,hr⟩:=hr
   split at hr
   ·exact Jw hr
   ·cases hr
  ·cases hr
 ·split at ak
  ·cases ak;exact .refl _
  ·cases ak;exact .refl _
  ·cases ak;exact .refl _
  ·cases ak
 ·exact cP ak
 ·split at ak
  ·cases ak;exact .refl _
  ·cases ak
 ·unfold HA at ak
  split at ak
  ·simp only [Option.bind_eq_some_iff,Prod.exists] at ak
   obtain ⟨_,_,_,_,ak⟩:=ak
   split at ak
   ·cases ak;exact .push _ _
   ·cases ak
  ·cases ak
 ·exact cP ak
 ·exact cP ak
 ·exact cP ak
 ·exact cP ak
 ·split at ak
  ·exact cP ak
  ·cases ak
 ·exact dU ak
 ·split at ak
  ·exact cP ak
  ·split at ak
   ·split at ak
    ·exact zkt ak
    ·cases ak
   ·exact dU ak
 ·exact dU ak
 ·split at ak
  ·split at ak
   ·split at ak
    ·exact zgR ak
    ·cases ak
   ·cases ak
  ·split at ak
   ·unfold H9 at ak
    split at ak
    ·simp only [Option.bind_eq_some_iff,Prod.exists] at ak
     obtain ⟨_,_,_,_,_,ak⟩:=ak
     split at ak
     ·cases ak;exact .refl _
     ·split at ak
      ·simp only [Option.map_eq_some_iff,Prod.mk.injEq] at ak
       obtain ⟨h1,hw,_,rfl⟩:=ak
       exact Jw hw
      ·cases ak
    ·cases ak
   ·cases ak
  ·split at ak
   ·simp only [Option.map_eq_some_iff,Prod.mk.injEq] at ak
    obtain ⟨h1,hr,_,rfl⟩:=ak
    unfold pD at hr
    split at hr
    ·split at hr
     ·cases hr;exact .refl _
     ·simp only [Option.bind_eq_some_iff,Prod.exists] at hr
      obtain ⟨_,_,_,_,hr⟩:=hr
      split at hr
      ·exact Jw hr
      ·cases hr
    ·cases hr
   ·cases ak
  ·split at ak
   ·exact cP ak
   ·cases ak
  ·exact dU ak
  ·exact dU ak
  ·split at ak
   ·simp only [Option.map_eq_some_iff,Prod.mk.injEq] at ak
    obtain ⟨h1,hr,_,rfl⟩:=ak
    exact zl6 hr
   ·cases ak
  ·split at ak
   ·exact cP ak
   ·cases ak
  ·split at ak
   ·simp only [Option.bind_eq_some_iff,Prod.exists] at ak
    obtain ⟨_,_,_,ak⟩:=ak
    exact hC _ _ _ _ _ ak
   ·cases ak
  ·split at ak
   ·exact hC _ _ _ _ _ ak
   ·split at ak
    ·exact hC _ _ _ _ _ ak
    ·cases ak
   ·cases ak
  ·cases ak
 ·split at ak
  ·cases ak;exact .push _ _
  ·split at ak
   ·cases ak;exact .push _ _
   ·cases ak
 ·exact cP ak
 ·simp only [Option.map_eq_some_iff,Prod.mk.injEq] at ak
  obtain ⟨h1,hr,_,rfl⟩:=ak
  exact zhu hr
 ·simp only [Option.map_eq_some_iff,Prod.mk.injEq] at ak
  obtain ⟨h1,hr,_,rfl⟩:=ak
  exact zhu hr
 ·exact znF ak
 ·simp only [Option.map_eq_some_iff,Prod.mk.injEq] at ak
  obtain ⟨h1,hr,_,rfl⟩:=ak
  exact zhE hr
 ·exact cP ak
 ·exact cP ak
 ·cases ak

theorem WE {C:Fn→List Value→Heap→Option (Value × Heap)} (hC:tm C) {ops:Array Oper}:∀ (l:List Oper) (e e':Env) (h h':Heap),sg P T C ops l e h=some (e',h')→bw h h'
 | [],e,e',h,h',ak=>by simp only [sg,Option.some.injEq,Prod.mk.injEq] at ak;obtain ⟨_,rfl⟩:=ak;exact .refl _
 |o::l,e,e',h,h',ak=>by
  simp only [sg] at ak
  split at ak
  ·split at ak
   ·rename_i v h1 h2
    exact (Hu hC h2).trans (WE hC l _ _ _ _ ak)
   ·cases ak
  ·exact WE hC l _ _ _ _ ak

theorem ER (hT:T.Fits P) {C:Fn→List Value→Heap→Option (Value × Heap)} {gs:List Nat} (hC:CS P gs C) (hg:tm C) {ops:Array Oper} {Q:Exit→Act→World→Prop} {rl:Option Nat} {dd:List Deferred} :
 ∀ (l:List Oper) (e e':Env) (h h':Heap) (ρ:cE) (a:Act) (w:World),sg P T C ops l e h=some (e',h')→(∀ o∈l,kZ ρ o)→da gs ρ→bP ρ h w→fI ρ h h'→cC ρ e a.tmps→a.defers=dd →
   (∀ ρ' a' w',Fr ρ ρ' h h' w w'→bP ρ' h' w'→cC ρ' e' a'.tmps→a'.defers=dd→Q .normal a' w')→wpListIn (WR rl) 0 P ops Q l a w
 | [],e,e',h,h',ρ,a,w,ak,_,_,hs,_,he,hd,hQ=>by
  simp only [sg,Option.some.injEq,Prod.mk.injEq] at ak
  obtain ⟨rfl,rfl⟩:=ak
  exact hQ ρ a w (Fr.refl _ _ _) hs he hd
 |o::l,e,e',h,h',ρ,a,w,ak,dy,hG,hs,hf,he,hd,hQ=>by
  have acK:=dy o (by simp)
  have Og:∀ q∈l,kZ ρ q:=fun q hq=>dy q (by simp [hq])
  simp only [sg] at ak
  unfold wpListIn
  rw [zpm he]
  split at ak
  ·rename_i hw
   rw [if_pos hw]
   split at ak
   ·rename_i v h1 h2
    have dz:=(WE hg l _ _ _ _ ak).size
    refine (Ju hT hC hG hs he acK (hf.left dz) h2).wp (Jt h2) fun ρ1 u w1 f1 s1 v1=>?_
    refine ER hT hC hg l _ _ _ _ ρ1 _ w1 ak (fun q hq=>(Og q hq).mono f1.grow) (hG.mono f1.grow) s1 (hf.right f1) ((he.mono f1.grow).put v1 o.dst) (by cases o.dst <;> exact hd) ?_
    intro ρ2 a2 w2 f2 s2 e2 d2
    exact hQ ρ2 a2 w2 (f1.trans f2) s2 e2 d2
   ·cases ak
  ·rename_i hw
   rw [if_neg hw]
   refine ⟨fun _ _=>trivial,?_⟩
   exact ER hT hC hg l _ _ _ _ ρ _ w ak Og hG hs hf (he.put (.undef ρ) o.dst) (by cases o.dst <;> exact hd) hQ

def Ex.to:Ex→Exit
 | .normal=>.normal
 | .exit id=>.exit id
 | .ret=>.ret

def DS (P:Program) (gs:List Nat) (D:Array Oper→Env→Heap→Option (Env × Heap)):Prop :=
 ∀ (rl:Option Nat) (id:Nat) (ops:Array Oper) (e e':Env) (h h':Heap) (ρ:cE) (a:Act) (w:World) (Q:Exit→Act→World→Prop),D ops e h=some (e',h')→(∀ o∈ops.toList,kZ ρ o)→da gs ρ→bP ρ h w→fI ρ h h'→cC ρ e a.tmps →
   (∀ ρ' a' w',Fr ρ ρ' h h' w w'→bP ρ' h' w'→cC ρ' e' a'.tmps→a'.defers=a.defers→Q .normal a' w')→(Code.region id ops true).wpIn (WR rl) 0 P Q a w
def U2 (D:Array Oper→Env→Heap→Option (Env × Heap)):Prop:=∀ ops e h e' h',D ops e h=some (e',h')→bw h h'

theorem TD {f:Env→Heap→Option (Ex × Env × Heap)} (hf:∀ e h x e' h',f e h=some (x,e',h')→bw h h'):∀ (n:Nat) (e:Env) (h:Heap) (x:Ex) (e':Env) (h':Heap),iter f n e h=some (x,e',h')→bw h h'
 |0,_,_,_,_,_,hi=>by simp [iter] at hi
 |n+1,e,h,x,e',h',hi=>by
  simp only [iter] at hi
  split at hi
  ·rename_i e1 h1 h2
   exact (hf _ _ _ _ _ h2).trans (TD hf n _ _ _ _ _ hi)
  ·exact hf _ _ _ _ _ hi

theorem zfq {l:Nat} {e e':Env} {x:Ex} (ak:yX l e h=some (x,e',h')):bw h h':=by
 unfold yX at ak
 split at ak
 ·rename_i hg
  split at ak
  ·cases ak
  ·split at ak
   ·cases ak;exact .set _ (Heap.bD hg)
   ·cases ak;exact .set _ (Heap.bD hg)
   ·cases ak;exact .set _ (Heap.bD hg)
   ·cases ak
 ·cases ak
theorem zoH {C:Fn→List Value→Heap→Option (Value × Heap)} (hC:tm C) {rd:Option Nat} {g:Value} {ps:List Tmp} {assign body:Code} {e e':Env} {x:Ex} (ak:Kp T C rd g ps assign body e h=some (x,e',h')):bw h h':=by
 unfold Kp at ak
 split at ak
 ·split at ak
  ·split at ak
   ·rename_i hc
    exact ((bw.push _ _).trans (hC _ _ _ _ _ hc)).trans (zfq ak)
   ·cases ak
  ·cases ak
 ·cases ak

theorem Hr {C:Fn→List Value→Heap→Option (Value × Heap)} {D:Array Oper→Env→Heap→Option (Env × Heap)} (hC:tm C) (hD:U2 D) (rd:Option Nat) (fuel:Nat):∀ (c:Code) (e:Env) (h:Heap) (x:Ex) (e':Env) (h':Heap),dQ P T C D rd fuel c e h=some (x,e',h')→bw h h':=by
 intro c
 induction c with
 |skip=>intro e h x e' h' ak;simp only [dQ,Option.some.injEq,Prod.mk.injEq] at ak;obtain ⟨_,_,rfl⟩:=ak;exact .refl _
 |region id ops d =>
  intro e h x e' h' ak
  simp only [dQ,Option.map_eq_some_iff,Prod.exists,Prod.mk.injEq] at ak
  obtain ⟨e1,h1,hr,_,rfl,rfl⟩:=ak
  split at hr
  ·exact hD _ _ _ _ _ hr
  ·exact WE hC _ _ _ _ _ hr
 |seq a b iN iO =>
  intro e h x e' h' ak
  simp only [dQ] at ak
  split at ak
  ·rename_i e1 h1 h2
   exact (iN _ _ _ _ _ h2).trans (iO _ _ _ _ _ ak)
  ·exact iN _ _ _ _ _ ak
 |cond c a b iN iO =>
  intro e h x e' h' ak
  simp only [dQ] at ak
  split at ak
  ·exact iN _ _ _ _ _ ak
  ·exact iO _ _ _ _ _ ak
  ·cases ak
 |block id c ih =>
  intro e h x e' h' ak
  simp only [dQ] at ak
  split at ak
  ·rename_i i e1 h1 h2
   have:=ih _ _ _ _ _ h2
   split at ak <;> (simp only [Option.some.injEq,Prod.mk.injEq] at ak;obtain ⟨_,_,rfl⟩:=ak;exact this)
  ·exact ih _ _ _ _ _ ak
 |loop c ih=>intro e h x e' h' ak;simp only [dQ] at ak;exact TD ih _ _ _ _ _ _ ak
 |exit id=>intro e h x e' h' ak;simp only [dQ,Option.some.injEq,Prod.mk.injEq] at ak;obtain ⟨_,_,rfl⟩:=ak;exact .refl _
 |ret=>intro e h x e' h' ak;simp only [dQ,Option.some.injEq,Prod.mk.injEq] at ak;obtain ⟨_,_,rfl⟩:=ak;exact .refl _
 |label l=>intro e h x e' h' ak;simp only [dQ,Option.some.injEq,Prod.mk.injEq] at ak;obtain ⟨_,_,rfl⟩:=ak;exact .refl _
 |rangeFunc f ps a b _ _=>intro e h x e' h' ak;exact zoH hC ak
 |scope c ih=>intro e h x e' h' ak;exact ih _ _ _ _ _ ak
 |goto l=>intro e h x e' h' ak;simp [dQ] at ak
 |refuse s=>intro e h x e' h' ak;simp [dQ] at ak

def kN:Code→Bool
 | .seq a b=>kN a && kN b
 | .cond _ a b=>kN a && kN b
 | .block _ c=>kN c
 | .loop c=>kN c
 | .scope c=>kN c
 | .rangeFunc _ _ _ _=>false
 |_=>true
def Marks (n0:Nat) (B:List Deferred) (nr:Bool) (ρ:cE) (w:World) (ds:List Deferred):Prop :=
 ∃ rs:List Nat,ds=rs.map (fun r=>{ target:=.collected r,args:=#[] })++B∧rs.Nodup∧(nr=true→rs=[])∧∀ r∈rs,n0≤r∧w.heap[r]? = some (.deferred (some []))∧∀ A L,ρ A=some L→L.b≠r
theorem Marks.nil {n0:Nat} {B:List Deferred} {nr:Bool}:Marks n0 B nr ρ w B:=⟨[],rfl,.nil,fun _=>rfl,by intro r hr;cases hr⟩
theorem Marks.step {n0:Nat} {B:List Deferred} {nr:Bool} {ρ':cE} {w':World} {ds:List Deferred} (hm:Marks n0 B nr ρ w ds) (f:Fr ρ ρ' h h' w w'):Marks n0 B nr ρ' w' ds:=by
 obtain ⟨rs,h1,h2,h0,h3⟩:=hm
 refine ⟨rs,h1,h2,h0,fun r hr=>?_⟩
 obtain ⟨a1,a2,a3⟩:=h3 r hr
 have aR:r < w.heap.size:=(Array.getElem?_eq_some_iff.1 a2).1
 refine ⟨a1,(f.keep r aR fun A L hA hb=>(a3 A L hA hb).elim).trans a2,fun A L hA hb=>?_⟩
 cases hρ:ρ A with
 |some L0 =>
  have e:L0=L:=by have:=f.grow A L0 hρ;rw [hA] at this;exact (Option.some.inj this).symm
  subst e
  exact a3 A L0 hρ hb
 |none =>
  rcases (f.fresh A L hA hρ).2.2 with h4|⟨A0,L0,h4,h5,_⟩
  ·omega
  ·exact a3 A0 L0 h4 (h5.trans hb)

def Im (ρ:cE):Option Nat→Option Nat→Prop
 |none,none=>True
 |some A,some l=>∃ L,ρ A=some L∧L.b=l
 |_,_=>False
theorem Im.mono {ρ':cE} (hg:∀ A L,ρ A=some L→ρ' A=some L):∀ {rd rl:Option Nat},Im ρ rd rl→Im ρ' rd rl
 |none,none,_=>trivial
 |some _,some _,⟨L,h1,h2⟩=>⟨L,hg _ _ h1,h2⟩
 |none,some _,hh=>hh.elim
 |some _,none,hh=>hh.elim

theorem JK {b:Frame} {a:Act} {k:List Item} {cs:List Frame} {c:Code}:step P (lone (b.atR a (.code (.scope c)::k)) cs w)=.next (lone (b.atR a (.code c::.inScope c::k)) cs w) :=
 step_lone_go (by simp [stepG,stepG.exec,Frame.atR])
theorem zmJ {b:Frame} {a:Act} {k:List Item} {cs:List Frame} {c:Code}:step P (lone (b.atR a (.inScope c::k)) cs w)=.next (lone (b.atR a k) cs w) :=
 step_lone_go (by simp [stepG,stepG.exec,Frame.atR])
theorem zgN {F:Fence} {n:Nat} {Q:Exit→Act→World→Prop} {a:Act} {c:Code} (hc:c.wpIn F n P (Exit.noGoto Q) a w):(Code.scope c).wpIn F n P Q a w:=by
 intro b k cs sO hb hr
 have h0:(lone (b.atR a (.code (.scope c)::k)) cs w).fenced P F:=fenced_calm hb hr rfl
 obtain ⟨e,a₁,w₁,hq,tJ⟩:=hc b (.inScope c::k) cs sO hb hr
 cases e with
 |normal=>exact ⟨.normal,a₁,w₁,hq,.head h0 JK (StepsIn.trans tJ (.one (fenced_calm hb hr rfl) zmJ))⟩
 |exit id =>
  have hx:exitTo id (.inScope c::k)=exitTo id k:=by simp [exitTo]
  exact ⟨.exit id,a₁,w₁,hq,fun k' hk=>.head h0 JK (tJ.1 k' (by rw [hx];exact hk)),
   fun bz hk=>let ⟨k₁,h1,h2⟩:=tJ.2 bz (by rw [hx];exact hk);⟨k₁,h1,.head h0 JK h2⟩⟩
 |goto l=>exact hq.elim
 |ret=>exact ⟨_,a₁,w₁,hq,.of_steps (.one h0 JK) tJ⟩
 |panic ch=>exact ⟨_,a₁,w₁,hq,.of_steps (.one h0 JK) tJ⟩
 |outgrown=>exact ⟨_,a₁,w₁,hq,.of_steps (.one h0 JK) tJ⟩

theorem WL (w:World) (r:Nat) (o:Obj):(w.putObj r o).heap=w.heap.setIfInBounds r o:=rfl
theorem zwl {r:Nat} {o:Obj} (aR:r < w.heap.size):(w.putObj r o).heap[r]? = some o:=by rw [WL];simp [aR]
theorem WV {r k:Nat} {o:Obj} (hk:k≠r):(w.putObj r o).heap[k]? = w.heap[k]? := by
 rw [WL,Array.getElem?_setIfInBounds_ne (Ne.symm hk)]

theorem Ru (hs:bP ρ h w) {A:Nat} {L:Loc} (hA:ρ A=some L) {env:List Value} {ps:List Tmp} {assign body:Code} {st:LoopState} {dN:Option Code} (hg:h.get A=some (.loop env ps assign body st dN)) :
 ∃ l:Loop,w.heap[L.b]? = some (.loop l)∧l.state=st∧l.pending=dN∧l.params.toList=ps∧l.assign=assign∧l.body=body∧cC ρ env l.tmps∧cO ρ assign∧cO ρ body ∧
   ∀ Ps qK,Fr ρ ρ h (h.set A (.loop env ps assign body Ps qK)) w (w.putObj L.b (.loop { l with state:=Ps,pending:=qK }))∧bP ρ (h.set A (.loop env ps assign body Ps qK)) (w.putObj L.b (.loop { l with state:=Ps,pending:=qK })):=by
 have hb:=hs.fG A L hA
 rw [hg] at hb
 obtain ⟨l,h1,h2,h3,h4,h5,h6,h7,h8,h9⟩:=hb
 refine ⟨l,h1,h2,h3,h4,h5,h6,h7,h8,h9,fun Ps qK=>?_⟩
 have aR:L.b < w.heap.size:=(Array.getElem?_eq_some_iff.1 h1).1
 exact JB hs hA hg (by simp) (by simp) rfl rfl rfl (by rw [WL];simp) (fun q hq=>WV hq) ⟨_,zwl aR,rfl,rfl,h4,h5,h6,h7,h8,h9⟩

theorem zgm (hT:T.Fits P) {C:Fn→List Value→Heap→Option (Value × Heap)} {D:Array Oper→Env→Heap→Option (Env × Heap)} {gs:List Nat} (hC:CS P gs C) (hg:tm C) (hD:DS P gs D) (Tf:U2 D) (rd rl:Option Nat) (n0:Nat) (B:List Deferred) (nr:Bool) (fuel:Nat) :
 ∀ (c:Code) (e:Env) (h:Heap) (x:Ex) (e':Env) (h':Heap) (ρ:cE) (a:Act) (w:World) (Q:Exit→Act→World→Prop),dQ P T C D rd fuel c e h=some (x,e',h')→cO ρ c→(nr=true→kN c=true)→da gs ρ→bP ρ h w→fI ρ h h'→cC ρ e a.tmps→Marks n0 B nr ρ w a.defers→Im ρ rd rl→n0≤w.heap.size →
   (∀ ρ' a' w',Fr ρ ρ' h h' w w'→bP ρ' h' w'→cC ρ' e' a'.tmps→Marks n0 B nr ρ' w' a'.defers→Q x.to a' w')→c.wpIn (WR rl) 0 P Q a w:=by
 intro c
 induction c with
 |skip =>
  intro e h x e' h' ρ a w Q ak _ _ _ hs _ he hd _ _ hQ
  simp only [dQ,Option.some.injEq,Prod.mk.injEq] at ak
  obtain ⟨rfl,rfl,rfl⟩:=ak
  exact wpIn_skip (hQ ρ a w (Fr.refl _ _ _) hs he hd)
 |region id ops d =>
  intro e h x e' h' ρ a w Q ak dy _ hG hs hf he hd _ _ hQ
  simp only [dQ,Option.map_eq_some_iff,Prod.exists,Prod.mk.injEq] at ak
  obtain ⟨e1,h1,hr,rfl,rfl,rfl⟩:=ak
  have XW:∀ ρ' a' w',Fr ρ ρ' h h1 w w'→bP ρ' h1 w'→cC ρ' e1 a'.tmps→a'.defers=a.defers→Q .normal a' w':=fun ρ' a' w' f1 s1 r1 d1=>hQ ρ' a' w' f1 s1 r1 (by rw [d1];exact hd.step f1)
  cases d with
  |true =>
   simp only [if_true] at hr
   exact hD rl id ops e e1 h h1 ρ a w Q hr dy hG hs hf he XW
  |false =>
   simp only [Bool.false_eq_true,if_false] at hr
   exact wpIn_region_list (ER hT hC hg ops.toList e e1 h h1 ρ a w hr dy hG hs hf he rfl XW)
 |seq c1 c2 Tu BO =>
  intro e h x e' h' ρ a w Q ak dy lk hG hs hf he hd nk hn hQ
  simp only [dQ] at ak
  have Ak:nr=true→kN c1=true:=fun q=>by have:=lk q;simp only [kN,Bool.and_eq_true] at this;exact this.1
  have GB:nr=true→kN c2=true:=fun q=>by have:=lk q;simp only [kN,Bool.and_eq_true] at this;exact this.2
  refine wpIn_seq ?_
  split at ak
  ·rename_i e1 h1 h2
   have dz:=(Hr hg Tf rd fuel c2 _ _ _ _ _ ak).size
   refine Tu e h .normal e1 h1 ρ a w _ h2 dy.1 Ak hG hs (hf.left dz) he hd nk hn fun ρ1 a1 w1 f1 s1 r1 d1=>?_
   exact BO e1 h1 x e' h' ρ1 a1 w1 Q ak (dy.2.mono f1.grow) GB (hG.mono f1.grow) s1 (hf.right f1) r1 d1 (nk.mono f1.grow) (Nat.le_trans hn f1.size) fun ρ2 a2 w2 f2 s2 r2 d2=>hQ ρ2 a2 w2 (f1.trans f2) s2 r2 d2
  ·rename_i aP
   refine Tu e h x e' h' ρ a w _ ak dy.1 Ak hG hs hf he hd nk hn fun ρ1 a1 w1 f1 s1 r1 d1=>?_
   cases x with
   |normal=>exact (aP e' h' ak).elim
   |exit id=>exact hQ ρ1 a1 w1 f1 s1 r1 d1
   |ret=>exact hQ ρ1 a1 w1 f1 s1 r1 d1
 |cond c c1 c2 Tu BO =>
  intro e h x e' h' ρ a w Q ak dy lk hG hs hf he hd nk hn hQ
  have hc:=he.operand dy.1
  have Ak:nr=true→kN c1=true:=fun q=>by have:=lk q;simp only [kN,Bool.and_eq_true] at this;exact this.1
  have GB:nr=true→kN c2=true:=fun q=>by have:=lk q;simp only [kN,Bool.and_eq_true] at this;exact this.2
  simp only [dQ] at ak
  split at ak
  ·rename_i hb
   rw [hb] at hc
   exact wpIn_cond_true (hc.bM rfl) (Tu e h x e' h' ρ a w Q ak dy.2.1 Ak hG hs hf he hd nk hn hQ)
  ·rename_i hb
   rw [hb] at hc
   exact wpIn_cond_false (hc.bM rfl) (BO e h x e' h' ρ a w Q ak dy.2.2 GB hG hs hf he hd nk hn hQ)
  ·cases ak
 |block id c ih =>
  intro e h x e' h' ρ a w Q ak dy lk hG hs hf he hd nk hn hQ
  simp only [dQ] at ak
  refine wpIn_block ?_
  split at ak
  ·rename_i i e1 h1 h2
   split at ak
   ·rename_i hi
    simp only [Option.some.injEq,Prod.mk.injEq] at ak
    obtain ⟨rfl,rfl,rfl⟩:=ak
    refine ih e h (.exit i) e1 h1 ρ a w _ h2 dy lk hG hs hf he hd nk hn fun ρ1 a1 w1 f1 s1 r1 d1=>?_
    simp only [Ex.to,Exit.inBlock,if_pos hi]
    exact hQ ρ1 a1 w1 f1 s1 r1 d1
   ·rename_i hi
    simp only [Option.some.injEq,Prod.mk.injEq] at ak
    obtain ⟨rfl,rfl,rfl⟩:=ak
    refine ih e h (.exit i) e1 h1 ρ a w _ h2 dy lk hG hs hf he hd nk hn fun ρ1 a1 w1 f1 s1 r1 d1=>?_
    simp only [Ex.to,Exit.inBlock,if_neg hi]
    exact hQ ρ1 a1 w1 f1 s1 r1 d1
  ·rename_i aP
   refine ih e h x e' h' ρ a w _ ak dy lk hG hs hf he hd nk hn fun ρ1 a1 w1 f1 s1 r1 d1=>?_
   cases x with
   |normal=>exact hQ ρ1 a1 w1 f1 s1 r1 d1
   |exit i=>exact (aP i e' h' ak).elim
   |ret=>exact hQ ρ1 a1 w1 f1 s1 r1 d1
 |loop c ih =>
  intro e h x e' h' ρ a w Q ak dy lk hG hs hf he hd nk hn hQ
  simp only [dQ] at ak
  refine wpIn_loop_rounds fuel ?_
  have key:∀ (n:Nat) (e:Env) (h:Heap) (ρ:cE) (a:Act) (w:World),iter (dQ P T C D rd fuel c) n e h=some (x,e',h')→cO ρ c→da gs ρ→bP ρ h w→fI ρ h h'→cC ρ e a.tmps→Marks n0 B nr ρ w a.defers→Im ρ rd rl→n0≤w.heap.size →
   (∀ ρ' a' w',Fr ρ ρ' h h' w w'→bP ρ' h' w'→cC ρ' e' a'.tmps→Marks n0 B nr ρ' w' a'.defers→Q x.to a' w')→Code.roundsIn (WR rl) 0 P c Q n a w:=by
   intro n
   induction n with
   |zero=>intro e h ρ a w hi;simp [iter] at hi
   |succ n OL =>
    intro e h ρ a w hi dy hG hs hf he hd nk hn hQ
    simp only [iter] at hi
    rw [roundsIn_succ]
    split at hi
    ·rename_i e1 h1 h2
     have dz:=(TD (Hr (P:=P) (T:=T) hg Tf rd fuel c) n _ _ _ _ _ hi).size
     refine ih e h .normal e1 h1 ρ a w _ h2 dy lk hG hs (hf.left dz) he hd nk hn fun ρ1 a1 w1 f1 s1 r1 d1=>?_
     exact OL e1 h1 ρ1 a1 w1 hi (dy.mono f1.grow) (hG.mono f1.grow) s1 (hf.right f1) r1 d1 (nk.mono f1.grow) (Nat.le_trans hn f1.size) fun ρ2 a2 w2 f2 s2 r2 d2=>hQ ρ2 a2 w2 (f1.trans f2) s2 r2 d2
    ·rename_i aP
     refine ih e h x e' h' ρ a w _ hi dy lk hG hs hf he hd nk hn fun ρ1 a1 w1 f1 s1 r1 d1=>?_
     cases x with
     |normal=>exact (aP e' h' hi).elim
     |exit id=>exact hQ ρ1 a1 w1 f1 s1 r1 d1
     |ret=>exact hQ ρ1 a1 w1 f1 s1 r1 d1
  exact key fuel e h ρ a w ak dy hG hs hf he hd nk hn hQ
 |exit id =>
  intro e h x e' h' ρ a w Q ak _ _ _ hs _ he hd _ _ hQ
  simp only [dQ,Option.some.injEq,Prod.mk.injEq] at ak
  obtain ⟨rfl,rfl,rfl⟩:=ak
  exact wpIn_exit (hQ ρ a w (Fr.refl _ _ _) hs he hd)
 |ret =>
  intro e h x e' h' ρ a w Q ak _ _ _ hs _ he hd _ _ hQ
  simp only [dQ,Option.some.injEq,Prod.mk.injEq] at ak
  obtain ⟨rfl,rfl,rfl⟩:=ak
  exact wpIn_ret (hQ ρ a w (Fr.refl _ _ _) hs he hd)
 |label l =>
  intro e h x e' h' ρ a w Q ak _ _ _ hs _ he hd _ _ hQ
  simp only [dQ,Option.some.injEq,Prod.mk.injEq] at ak
  obtain ⟨rfl,rfl,rfl⟩:=ak
  exact wpIn_label (hQ ρ a w (Fr.refl _ _ _) hs he hd)
 |rangeFunc g ps assign body _ _ =>
  intro e h x e' h' ρ a w Q ak dy lk hG hs hf he hd nk hn hQ
  simp only [dQ] at ak
  have Of:¬ nr=true:=fun q=>by have:=lk q;simp [kN] at this
  have Ad:=he.operand dy.1
  unfold Kp at ak
  split at ak
  ·rename_i f first captured kQ
   split at ak
   ·rename_i DA
    simp only [Bool.and_eq_true] at DA
    obtain ⟨DA,qj⟩:=DA
    split at ak
    ·rename_i r0 h2 iC
     rw [kQ] at Ad
     generalize Be:a.eval g=ag at Ad
     cases Ad with
     |func _ q1 q2 q3 q4 =>
      rename_i gJ du
      have kg:cD ρ first.toList gJ.toList:=⟨by simpa using q1,fun i x y hx hy=>q3 i x y (by simpa using hx) (by simpa using hy)⟩
      have jI:cD ρ captured.toList du.toList:=⟨by simpa using q2,fun i x y hx hy=>q4 i x y (by simpa using hx) (by simpa using hy)⟩
      have gz:=hg _ _ _ _ _ iC
      have pc:=zfq ak
      have xf:(h.push (.loop e ps.toList assign body .ready none)).size=h.size+1:=rfl
      have nK:=gz.size
      have Ax:=pc.size
      have gd:ρ h.size=none:=hf h.size (Nat.le_refl _) (by omega)
      refine wpIn_rangeFunc fun fn _=>?_
      /- the record is laid -/
      have cU:∃ (l:Nat) (mark:List Deferred) (w1:World) (lo:Loop),(Instr.enterLoop fn a.tmps ps assign body (WR rl).round).run P w=.ok (l,mark) w1∧w.heap.size≤l∧w1.heap[l]? = some (.loop lo) ∧
       lo.state=.ready∧lo.pending=none∧lo.params=ps∧lo.assign=assign∧lo.body=body∧lo.tmps=a.tmps∧(∀ k,k < w.heap.size→w1.heap[k]? = w.heap[k]?)∧w.heap.size≤w1.heap.size∧w1.os=w.os∧w1.tape=w.tape∧w1.output=w.output ∧
       (∀ ρ1,(∀ A L,ρ1 A=some L→ρ A=some L∨L.b=l)→Marks n0 B nr ρ1 w1 (mark++a.defers)):=by
       cases rl with
       |none =>
        refine ⟨_,_,_,{ state:=.ready,pending:=none,fn,tmps:=a.tmps,params:=ps,assign,body,defers:=w.heap.size },run_enterLoop_outer fn a.tmps ps assign body,Nat.le_succ _,by rw [World.bQ,World.bQ,Array.getElem?_push,if_pos (by simp)],rfl,rfl,rfl,rfl,rfl,rfl,?_,by simp [World.bQ];omega,rfl,rfl,rfl,?_⟩
        ·intro k hk
         rw [World.bQ,World.bQ,Array.getElem?_push,if_neg (by simp;omega),Array.getElem?_push,if_neg (by omega)]
        ·intro ρ1 Ea
         obtain ⟨rs,m1,m2,_,m3⟩:=hd
         refine ⟨w.heap.size::rs,by simp [m1],?_,fun q=>(Of q).elim,?_⟩
         ·refine List.nodup_cons.2 ⟨fun cd=>?_,m2⟩
          have:=(Array.getElem?_eq_some_iff.1 (m3 _ cd).2.1).1
          omega
         ·intro r hr
          rcases List.mem_cons.1 hr with rfl|hr
          ·refine ⟨hn,by simp [World.bQ,Array.getElem?_push],fun A L hA hb=>?_⟩
           rcases Ea A L hA with h4|h4
           ·have:=hs.lt h4;omega
           ·omega
          ·obtain ⟨a1,a2,a3⟩:=m3 r hr
           have aR:r < w.heap.size:=(Array.getElem?_eq_some_iff.1 a2).1
           refine ⟨a1,?_,fun A L hA hb=>?_⟩
           ·rw [World.bQ,World.bQ,Array.getElem?_push,if_neg (by simp;omega),Array.getElem?_push,if_neg (by omega)]
            exact a2
           ·rcases Ea A L hA with h4|h4
            ·exact a3 A L h4 hb
            ·omega
       |some l0 =>
        cases rd with
        |none=>exact nk.elim
        |some A0 =>
         obtain ⟨L0,dZ,rfl⟩:=nk
         have acQ:∃ lo:Loop,w.heap[L0.b]? = some (.loop lo):=by
          simp only [RP] at DA
          split at DA
          ·rename_i Bp
           obtain ⟨lo,h4,_⟩:=Ru hs dZ Bp
           exact ⟨lo,h4⟩
          ·cases DA
         obtain ⟨lo,cV⟩:=acQ
         have dX:(Instr.enterLoop fn a.tmps ps assign body (some L0.b)).run P w=.ok (w.heap.size,[]) (w.alloc (.loop { state:=.ready,pending:=none,fn,tmps:=a.tmps,params:=ps,assign,body,defers:=lo.defers })):=by
          unfold Instr.enterLoop
          simp only [Sem.run_bind,run_getLoop cV,Sem.run_pure,Result.andThen,run_newObj_alloc]
         refine ⟨_,_,_,{ state:=.ready,pending:=none,fn,tmps:=a.tmps,params:=ps,assign,body,defers:=lo.defers },dX,Nat.le_refl _,by simp [World.bQ],rfl,rfl,rfl,rfl,rfl,rfl,?_,by simp [World.bQ],rfl,rfl,rfl,?_⟩
         ·intro k hk
          rw [World.bQ,Array.getElem?_push,if_neg (by omega)]
         ·intro ρ1 Ea
          obtain ⟨rs,m1,m2,_,m3⟩:=hd
          refine ⟨rs,by simp [m1],m2,fun q=>(Of q).elim,?_⟩
          intro r hr
          obtain ⟨a1,a2,a3⟩:=m3 r hr
          have aR:r < w.heap.size:=(Array.getElem?_eq_some_iff.1 a2).1
          refine ⟨a1,?_,fun A L hA hb=>?_⟩
          ·rw [World.bQ,Array.getElem?_push,if_neg (by omega)]
           exact a2
          ·rcases Ea A L hA with h4|h4
           ·exact a3 A L h4 hb
           ·omega
      obtain ⟨l,mark,w1,lo,cU,hl,uj,l1,l2,l3,l4,l5,l6,hold,dz,tW,kE,fE,N4⟩:=cU
      obtain ⟨ρ1,Ea,f1,s1⟩:=WK (W:=w1) (L:=⟨l,0,0⟩) (b:=.loop e ps.toList assign body .ready none) hs gd hold dz tW kE fE hl
       (fun ρ' ey=>⟨lo,uj,l1,l2,by rw [l3],l4,l5,by rw [l6];exact he.mono ey,dy.2.1.mono ey,dy.2.2.mono ey⟩)
      have iL:Marks n0 B nr ρ1 w1 (mark++a.defers):=N4 ρ1 fun A L hA=>by
       cases hρ:ρ A with
       |some L0 =>
        have e:L0=L:=by have:=f1.grow A L0 hρ;rw [hA] at this;exact (Option.some.inj this).symm
        subst e
        exact .inl rfl
       |none =>
        have h4:=(f1.fresh A L hA hρ)
        have h5:A=h.size:=by have:=h4.1;have:=h4.2.1;omega
        subst h5
        rw [Ea] at hA
        cases hA
        exact .inr rfl
      have o8:fI ρ1 (h.push (.loop e ps.toList assign body .ready none)) h2:=(hf.left Ax).right f1
      have eu:cD ρ1 (first.toList++[.func (.yield h.size) #[] #[]]++captured.toList) (gJ++#[Value.func (Fn.yield l) #[] #[]]++du).toList:=by
       have:=((kg.mono f1.grow).append (cD.cons (VR.yield Ea) (.nil ρ1))).append (jI.mono f1.grow)
       simpa using this
      have iM:(resolve a.eval (rangeCall g l) 0).run P w1=.ok { target:=.fn (.func f) du,args:=gJ++#[Value.func (Fn.yield l) #[] #[]] } w1:=by
       have hcv:a.eval (.const (.func (.yield l) #[] #[]))=.func (.yield l) #[] #[]:=rfl
       simp [resolve,Be,hcv,Deferred.ofValue]
      have hinv:∀ w,(invoke (.fn (.func f) du) (gJ++#[Value.func (Fn.yield l) #[] #[]])).run P w=(callFunc f (gJ++#[Value.func (Fn.yield l) #[] #[]]++du)).run P w:=fun w=>rfl
      rcases hC.fn f _ _ _ _ iC ρ1 w1 (gJ++#[Value.func (Fn.yield l) #[] #[]]++du) (hG.mono f1.grow) s1 o8 eu with ⟨_,_,_,eC,_⟩|⟨ab1,F6⟩
      ·exfalso
       unfold Sd at qj
       split at qj
       ·rename_i Wo ab9
        split at qj
        ·rename_i c0 pJ
         obtain ⟨hP,fA,_⟩:=hT.fn f Wo ab9
         have fZ:¬ Wo.name="runtime.NumGoroutine":=by simpa using fA
         simp [callFunc,hP,fZ,pJ] at eC
        ·cases qj
       ·cases qj
      ·refine ⟨l,mark,w1,_,w1,f,_,w1,cU,iM,fun _ _=>trivial,(hinv w1).trans ab1,(fun hh=>by cases hh),zkW (F6.mono ?_)⟩
       rintro ed w3 ⟨ρ3,u,rfl,f3,s3,_⟩
       unfold yX at ak
       split at ak
       ·rename_i env ps2 as2 bd2 st dN Gn
        have hρ3:ρ3 h.size=some ⟨l,0,0⟩:=f3.grow _ _ Ea
        obtain ⟨Hd,g1,g2,g3,_,_,_,_,_,_,g4⟩:=Ru s3 hρ3 Gn
        obtain ⟨f4,s4⟩:=g4 .exhausted dN
        have ld:st≠.busy→∀ x1:Ex,x1=x→e=e'→h2.set h.size (.loop env ps2 as2 bd2 .exhausted dN)=h'→(Instr.endLoop l).run P w3=.ok dN (w3.putObj l (.loop { Hd with state:=.exhausted,pending:=dN }))∧Q x.to { a with defers:=mark++a.defers } (w3.putObj l (.loop { Hd with state:=.exhausted,pending:=dN })):=by
         intro ez x1 hx1 yp yr
         subst hx1 yp yr
         have cV:({ Hd with state:=LoopState.exhausted,pending:=dN }:Loop)={ Hd with state:=LoopState.exhausted }:=by
          subst g3;rfl
         refine ⟨?_,hQ ρ3 { a with defers:=mark++a.defers } _ ((f1.trans f3).trans f4) s4 (he.mono (f1.trans f3).grow) ((iL.step f3).step f4)⟩
         rw [cV,← g3]
         exact run_endLoop g1 (by rw [g2];exact ez)
        split at ak
        ·cases ak
        ·rename_i ez
         split at ak
         ·simp only [Option.some.injEq,Prod.mk.injEq] at ak
          obtain ⟨rfl,h5,h6⟩:=ak
          obtain ⟨k1,k2⟩:=ld ez _ rfl h5 h6
          exact ⟨none,_,k1,k2⟩
         ·simp only [Option.some.injEq,Prod.mk.injEq] at ak
          obtain ⟨rfl,h5,h6⟩:=ak
          obtain ⟨k1,k2⟩:=ld ez _ rfl h5 h6
          exact ⟨_,_,k1,wpIn_exit k2⟩
         ·simp only [Option.some.injEq,Prod.mk.injEq] at ak
          obtain ⟨rfl,h5,h6⟩:=ak
          obtain ⟨k1,k2⟩:=ld ez _ rfl h5 h6
          exact ⟨_,_,k1,wpIn_ret k2⟩
         ·cases ak
       ·cases ak
    ·cases ak
   ·cases ak
  ·cases ak
 |scope c ih =>
  intro e h x e' h' ρ a w Q ak dy lk hG hs hf he hd nk hn hQ
  simp only [dQ] at ak
  refine zgN (ih e h x e' h' ρ a w _ ak dy lk hG hs hf he hd nk hn fun ρ1 a1 w1 f1 s1 r1 d1=>?_)
  have:=hQ ρ1 a1 w1 f1 s1 r1 d1
  cases x <;> exact this
 |goto l=>intro e h x e' h' ρ a w Q ak;simp [dQ] at ak
 |refuse s=>intro e h x e' h' ρ a w Q ak;simp [dQ] at ak

def Sy (tmps:Array Value):ResultVar→Sem Value
 | .tmp t=>pure (tmps.getD t undef)
 | .cell a t=>do loadVar t (← asAddr (tmps.getD a undef))

theorem ztz (fn:Func) (tmps:Array Value):results fn tmps=(do let vs ← fn.results.mapM (Sy tmps);pure (if h:vs.size=1 then vs[0] else .tuple vs)):=by
 unfold results
 congr 2

theorem zmF (hT:T.Fits P) (hs:bP ρ h w) {e:Env} {tmps:Array Value} (he:cC ρ e tmps):∀ {r:ResultVar} {v:Value},si T e h r=some v→∃ u,(Sy tmps r).run P w=.ok u w∧VR ρ v u
 | .tmp t,v,hr=>by simp only [si,Option.some.injEq] at hr;subst hr;exact ⟨_,rfl,he.2 t⟩
 | .cell a t,v,hr=>by
  simp only [si] at hr
  have hv:=he.2 a
  simp only [Sy]
  generalize e.get a=x at hv hr
  generalize tmps.getD a undef=y at hv
  obtain ⟨u,h1,h2⟩:=MR hT hs hv hr
  refine ⟨u,?_,h2⟩
  rw [← h1]
  cases hv <;> first|(simp [dI] at hr;done)|simp [Instr.loadAt,Instr.sureAddr,asAddr]

theorem E6 (hT:T.Fits P) (hs:bP ρ h w) {fn:Func} {e:Env} {tmps:Array Value} (he:cC ρ e tmps) {v:Value} (hr:mj T fn e h=some v) :
 ∃ u,(results fn tmps).run P w=.ok u w∧VR ρ v u:=by
 have ob:∀ (rs:List ResultVar) (vs:List Value),rs.mapM (si T e h)=some vs→∃ us:List Value,cD ρ vs us ∧
  (rs.mapM (Sy tmps)).run P w=.ok us w:=by
  intro rs
  induction rs with
  |nil=>intro vs dA;simp at dA;subst dA;exact ⟨[],.nil ρ,by simp⟩
  |cons r rs ih =>
   intro vs dA
   rw [List.mapM_cons] at dA
   simp only [Option.bind_eq_bind,Option.bind_eq_some_iff,Option.pure_def,Option.some.injEq] at dA
   obtain ⟨v1,kg,B6,GX,rfl⟩:=dA
   obtain ⟨u1,h1,h2⟩:=zmF hT hs he kg
   obtain ⟨us,h3,h4⟩:=ih B6 GX
   refine ⟨u1::us,.cons h2 h3,?_⟩
   rw [List.mapM_cons]
   simp only [Sem.run_bind,h1,Result.andThen_ok,h4,Sem.run_pure]
 have cP:∀ us:List Value,(fn.results.toList.mapM (Sy tmps)).run P w=.ok us w →
  (results fn tmps).run P w=.ok (if h:us.toArray.size=1 then us.toArray[0] else .tuple us.toArray) w:=by
  intro us h1
  rw [ztz,Array.mapM_eq_mapM_toList]
  simp only [Sem.run_bind,Sem.run_map,h1,Result.andThen_ok,Sem.run_pure]
 unfold mj at hr
 split at hr
 ·rename_i r Tn
  obtain ⟨us,h1,h2⟩:=ob [r] [v] (by simp [hr])
  obtain ⟨u,us',rfl,hu,hn⟩:=h1.of_cons
  have:=hn.of_nil
  subst this
  refine ⟨u,?_,hu⟩
  have:=cP [u] (by rw [Tn];exact h2)
  simpa using this
 ·rename_i aP
  simp only [Option.map_eq_some_iff] at hr
  obtain ⟨vs,dA,rfl⟩:=hr
  obtain ⟨us,h1,h2⟩:=ob _ vs dA
  refine ⟨.tuple us.toArray,?_,h1.jm⟩
  have:=cP us h2
  rw [this]
  congr 1
  have hlen:us.length≠1:=by
   intro bH
   have hl:fn.results.toList.length=us.length:=by
    have e1:vs.length=us.length:=h1.1
    have e2:∀ (rs:List ResultVar) (vs:List Value),rs.mapM (si T e h)=some vs→rs.length=vs.length:=by
     intro rs
     induction rs with
     |nil=>intro vs dA;simp at dA;subst dA;rfl
     |cons r rs ih =>
      intro vs dA
      rw [List.mapM_cons] at dA
      simp only [Option.bind_eq_bind,Option.bind_eq_some_iff,Option.pure_def,Option.some.injEq] at dA
      obtain ⟨v1,kg,B6,GX,rfl⟩:=dA
      simp [ih B6 GX]
    rw [e2 _ _ dA,e1]
   rw [bH] at hl
   match hm:fn.results.toList,hl with
   | [r],_=>exact aP r hm
  rw [dif_neg (by simpa using hlen)]
end
end Go.Am
