/- The plain machine: a deterministic evaluator of the model's code over a heap of its own. Definitions alone; no condition. -/
import GoSem.Step
import Derived.Calls
import Derived.Below
import Derived.Laws.AppendOwn
import Derived.Laws.MakeOwn
import Derived.Laws.CopyRow
import Derived.Deep.MidRow
import Derived.Lib.Space
import Derived.Laws.StructEq
import Derived.ChangeKeysEq
import Derived.RangeFuncRecord
import Derived.Laws.BytesArg
import Derived.Lib.ConvBytes
import Derived.CallsIn
import Derived.TacticsIn
import Derived.LoopNIn
import Derived.Scope
import Derived.RangeFuncLeaves
set_option linter.unusedSimpArgs false
namespace Go.Am

inductive Blk where
 |row (cells:List Value) (elem:TypeId) (ro:Bool)
 |map (es:List MapEntry) (clock:Nat)
 |loop (env:List Value) (ps:List Tmp) (assign body:Code) (st:LoopState) (pend:Option Code)
 |iter (m since:Nat) (seen:List Nat) (stepped:Nat)
 |dead

inductive Tr where
 |nil
 |node (v:Option Blk) (l r:Tr)

def Tr.get:Tr->Nat->Option Blk
 | .nil,_=>none
 | .node v l r,i=>match i with
  |0=>v
  |i+1=>if i % 2 == 0 then l.get (i / 2) else r.get (i / 2)

def Tr.set:Nat->Tr->Nat->Blk->Tr
 |0,t,_,_=>t
 |n+1,t,i,o =>
  match t with
  | .nil=>match i with
   |0=>.node (some o) .nil .nil
   |i+1=>if i % 2 == 0 then .node none (Tr.set n .nil (i / 2) o) .nil else .node none .nil (Tr.set n .nil (i / 2) o)
  | .node v l r=>match i with
   |0=>.node (some o) l r
   |i+1=>if i % 2 == 0 then .node v (Tr.set n l (i / 2) o) r else .node v l (Tr.set n r (i / 2) o)

structure Heap where
 size:Nat
 tr:Tr
 low:Nat
abbrev KTy:=Value->Heap->Prop
abbrev BAy:=ByteArray
abbrev Vly:=Value

def Heap.get (h:Heap) (A:Nat):Option Blk:=if A < h.size then h.tr.get A else none
def Heap.push (h:Heap) (b:Blk):Heap:={ h with size:=h.size+1,tr:=h.tr.set (h.size+1) h.size b }
def Heap.set (h:Heap) (A:Nat) (b:Blk):Heap:={ h with tr:=h.tr.set (A+1) A b,low:=min h.low A }

def G:Nat:=18446744073709551616

abbrev Env:=List Vly
def Env.get:Env->Nat->Vly
 | [],_=>undef
 |v::_,0=>v
 |_::r,n+1=>Env.get r n
def Env.set:Env->Nat->Vly->Env
 | [],_,_=>[]
 |_::r,0,v=>v::r
 |x::r,n+1,v=>x::Env.set r n v

def zaG:Vly->Bool
 | .bool _ | .int _ _ | .string _ | .nilFunc | .nilIface=>true
 | .pointer none | .map none=>true
 | .slice none n c=>n == 0 && c == 0
 | .func (.func _) f c=>f.isEmpty && c.isEmpty
 |_=>false
def plain:Vly->Bool
 | .agg cs=>cs.toList.all zaG
 |v=>zaG v
def one:Vly->Bool
 | .agg _ | .tuple _=>false
 |_=>true

def zan {α:Type} (P:Program):Sem α->Option α
 | .pure a=>some a
 | .program k=>zan P (k P)
 | .mark _ k=>zan P k
 |_=>none

structure Tab where
 desc:TypeId->Option TypeDesc
 info:TypeId->Option (Nat × Nat × List Vly)
 fn:FuncId->Option Func
 cmp:TypeId->Bool
 zero:TypeId->Option Vly
 gs:List Nat
 meth:TypeId->String->Option Method
 dfr:FuncId->Bool

section
variable (P:Program) (T:Tab)

def zb2 (t:TypeId):Option Nat:=(T.info t).map (·.1)
def aggA (t:TypeId):Option Bool:=(T.desc t).map fun
 | .struct _ | .array _ _=>true
 |_=>false

def cut (cs:List Vly) (o n:Nat):Option (List Vly):=if o+n<=cs.length then some ((cs.drop o).take n) else none
def splice (cs:List Vly) (o:Nat) (vs:List Vly):List Vly:=cs.take o++vs++cs.drop (o+vs.length)

def zav (A o n:Nat) (h:Heap):Option (List Vly) :=
 match h.get A with
 |some (.row cs _ _)=>cut cs o n
 |_=>none

def zb1 (t:TypeId) (x:Vly) (h:Heap):Option Vly :=
 match x with
 | .pointer (some ⟨A,o,none⟩) =>
  (aggA T t).bind λg =>
   if g then (zb2 T t).bind λn=>(zav A o n h).map λl=>.agg l.toArray
   else (zav A o 1 h).bind λl=>l[0]?
 |_=>none

def zcP (A o:Nat) (vs:List Vly) (h:Heap):Option Heap :=
 match h.get A with
 |some (.row cs e false)=>if o+vs.length<=cs.length && vs.all one then some (h.set A (.row (splice cs o vs) e false)) else none
 |_=>none

def zeS (t:TypeId) (x v:Vly) (h:Heap):Option Heap :=
 match x with
 | .pointer (some ⟨A,o,none⟩)=>(zb2 T t).bind λn=>if v.cells.size=n then zcP A o v.cells.toList h else none
 |_=>none

def newRow (e:TypeId) (cs:List Vly) (h:Heap):Vly × Heap:=(.pointer (some ⟨h.size,0,none⟩),h.push (.row cs e false))

def zc3 (x:Vly) (k:Nat) (h:Heap):Option (List Vly) :=
 match x with
 | .slice (some ⟨A,o,none⟩) n _=>if n*k=0 then some [] else zav A o (n*k) h
 | .slice none 0 _=>some []
 |_=>none

def srcA (x:Vly) (k:Nat) (h:Heap):Option (Nat × List Vly) :=
 match x with
 | .string b=>if k=1 then some (b.size,b.data.toList.map λu=>Value.int .u8 u.toNat) else none
 | .slice _ m _=>(zc3 x k h).map λl=>(m,l)
 |_=>none

def zbJ (t:TypeId) (s x:Vly) (h:Heap):Option (Vly × Heap) :=
 match T.desc t with
 |some (.slice e)=>(T.info e).bind λ(k,bytes,_) =>
  (srcA x k h).bind λ(m,news) =>
  match s with
  | .slice base n c =>
   if m=0 then some (s,h) else
   if k=0 || (n+m)*bytes > 140737488355328 || n+m > 1152921504606846976 || !news.all one then none else
   if n+m<=c % G then
    match base with
    |some ⟨A,o,none⟩=>if c < G || c / G=k then (zcP A (o+n*k) news h).map λh'=>(.slice base (n+m) c,h') else none
    |_=>none
   else
    (zc3 s k h).bind λold =>
    if c < G then some (.slice (some ⟨h.size,0,none⟩) (n+m) (G*k+(n+m)),h.push (.row (old++news) e false))
    else match base with
     |some ⟨A,_,none⟩=>match h.get A with
      |some (.row _ e' false) =>
       if e'=e && c / G=k then some (.slice (some ⟨h.size,0,none⟩) (n+m) (G*k+(n+m)),(h.set A .dead).push (.row (old++news) e false)) else none
      |_=>none
     |_=>none
  |_=>none
 |_=>none

def zgJ (x:Vly) (hi:Nat):Option Nat :=
 match x with
 | .int _ i=>if 0<=i/\i<=hi then some i.toNat else none
 |_=>none

def zbL (len cap:Nat) (l h m:Option Vly):Option (Nat × Nat × Nat) :=
 (match m with|some v=>zgJ v cap|none=>some cap).bind λm' =>
 (match h,m with|some v,_=>zgJ v m'|none,none=>some len|none,some _=>none).bind λh' =>
 (match l with|some v=>zgJ v h'|none=>some 0).bind λl'=>some (l',h',m')

def zfV (t:TypeId) (x:Vly) (l h m:Option Vly):Option Vly :=
 match T.desc t,x with
 |some .string,.string s=>if m.isSome then none else (zbL s.size s.size l h none).map λ(l',h',_)=>.string (s.extract l' h')
 |some (.array n e),.pointer (some ⟨A,o,none⟩) =>
  (if n < G then zbL n n l h m else none).bind λ(l',h',m')=>(zb2 T e).map λk=>.slice (some ⟨A,if m'=l' then o else o+l'*k,none⟩) (h' - l') (m' - l')
 |some (.slice e),.slice a n c =>
  (zb2 T e).bind λk =>
  if c < G then
   (zbL n c l h m).bind λ(l',h',m')=>match a with
    |some ⟨A,o,none⟩=>some (.slice (some ⟨A,if m'=l' then o else o+l'*k,none⟩) (h' - l') (m' - l'))
    |none=>some (.slice none (h' - l') (m' - l'))
    |_=>none
  else match a with
   |some ⟨A,o,none⟩ =>
    if c / G=k then
     (zbL n (c % G) l h m).map λ(l',h',m')=>match m with
      |some _=>.slice (some ⟨A,if m'=l' then o else o+l'*k,none⟩) (h' - l') (m' - l')
      |none=>.slice (some ⟨A,o+l'*k,none⟩) (h' - l') (G*k+(m' - l'))
    else none
   |_=>none
 |_,_=>none

def zbF (t:TypeId) (x i:Vly):Option Vly :=
 match i with
 | .int _ i=>match T.desc t,x with
  |some (.array n e),.pointer (some ⟨A,o,none⟩)=>if 0<=i/\i < n then (zb2 T e).map λk=>.pointer (some ⟨A,o+i.toNat*k,none⟩) else none
  |some (.slice e),.slice (some ⟨A,o,none⟩) n _=>if 0<=i/\i < n then (zb2 T e).map λk=>.pointer (some ⟨A,o+i.toNat*k,none⟩) else none
  |_,_=>none
 |_=>none

def zat (s:TypeId) (x:Vly) (f:Nat):Option Vly :=
 match T.desc s,x with
 |some (.struct fs),.pointer (some ⟨A,o,none⟩) =>
  (fs[f]?).bind λf=>(zb2 T f.type).bind λn=>if n=0 then none else some (.pointer (some ⟨A,o+f.offset,none⟩))
 |_,_=>none

def zfd (t:TypeId) (cs:List Vly) (o:Nat):Option Vly :=
 (aggA T t).bind λg=>if g then (zb2 T t).bind λn=>(cut cs o n).map λl=>.agg l.toArray else cs[o]?

def zfF (t:TypeId) (x:Vly) (f:Nat):Option Vly :=
 match T.desc t,x with
 |some (.struct fs),.agg cs=>(fs[f]?).bind λf=>zfd T f.type cs.toList f.offset
 |_,_=>none

def zbM (E:TypeId->Vly->Vly->Option Bool) (xs ys:List Vly):List (TypeId × Nat)->Option Bool
 | []=>some true
 |(t,o)::r=>(zfd T t xs o).bind λa=>(zfd T t ys o).bind λb=>(E t a b).bind λc=>if c then zbM E xs ys r else some false
def zbh:List Field->Option (List (TypeId × Nat))
 | []=>some []
 |f::fs=>if f.name="_" then none else (zbh fs).map λr=>(f.type,f.offset)::r
def zbG (e:TypeId) (k:Nat):Nat->Nat->List (TypeId × Nat)
 |0,_=>[]
 |n+1,i=>(e,i*k)::zbG e k n (i+1)
def eqIn:Nat->TypeId->Vly->Vly->Option Bool
 |0,_,_,_=>none
 |d+1,t,x,y=>match T.desc t,x,y with
  |some .bool,.bool a,.bool b=>some (a == b)
  |some (.int _),.int k a,.int k' b=>if k=k' then some (a == b) else none
  |some .string,.string a,.string b=>some (a.data.toList == b.data.toList)
  |some (.struct fs),.agg xs,.agg ys=>if T.cmp t then (zbh fs.toList).bind λps=>zbM T (eqIn d) xs.toList ys.toList ps else none
  |some (.array n e),.agg xs,.agg ys=>(zb2 T e).bind λk=>zbM T (eqIn d) xs.toList ys.toList (zbG e k n 0)
  |_,_,_=>none

def zgj (place:Nat->Option (Nat × Nat)) (cells:List Vly):List (Nat × Vly)->Option (List Vly)
 | []=>some cells
 |(i,v)::rest=>(place i).bind λ(o,n) =>
  if v.cells.size=n/\o+n<=cells.length then zgj place (splice cells o v.cells.toList) rest else none

def zdG:List Field->Option (List (Nat × Nat))
 | []=>some []
 |f::fs=>(zb2 T f.type).bind λn=>(zdG fs).map λr=>(f.offset,n)::r

def zfk (t:TypeId) (parts:List (Nat × Vly)):Option Vly :=
 (T.info t).bind λ(_,_,z) =>
 match T.desc t with
 |some (.struct fs)=>(zdG T fs.toList).bind λplaces=>(zgj (λk=>places[k]?) z parts).map λcs=>.agg cs.toArray
 |some (.array _ e)=>(zb2 T e).bind λk=>(zgj (λi=>some (i*k,k)) z parts).map λcs=>.agg cs.toArray
 |_=>none

def za9 (z:List Vly) (n:Nat):List Vly:=(List.replicate n z).flatten

def zau (t:TypeId) (len:Nat) (parts:List (Nat × Vly)) (h:Heap):Option (Vly × Heap) :=
 match T.desc t with
 |some (.slice e)=>(T.info e).bind λ(k,_,z) =>
  if len*k > 16777216 || len > 16777216 then none else
  (zgj (λi=>some (i*k,k)) (za9 z len) parts).map λcs=>(.slice (some ⟨h.size,0,none⟩) len len,h.push (.row cs e false))
 |_=>none

def zbj (t:TypeId) (l c:Vly) (h:Heap):Option (Vly × Heap) :=
 match T.desc t,l,c with
 |some (.slice e),.int _ l,.int _ c=>(T.info e).bind λ(_,bytes,z) =>
  if 0<=l/\l<=c/\c<=1152921504606846976/\c*bytes<=140737488355328 then
   some (.slice (some ⟨h.size,0,none⟩) l.toNat c.toNat,h.push (.row (za9 z c.toNat) e false))
  else none
 |_,_,_=>none

def zgN (t:TypeId) (d s:Vly) (h:Heap):Option (Vly × Heap) :=
 match T.desc t,d with
 |some (.slice e),.slice a n _=>(zb2 T e).bind λk =>
  (srcA s k h).bind λ(m,src) =>
  if min m n=0 then some (.int .i64 0,h) else
  match a with
  |some ⟨A,o,none⟩=>(zcP A o (src.take (min m n*k)) h).map λh'=>(.int .i64 (min m n:Nat),h')
  |_=>none
 |_,_=>none

def zeC (t:TypeId) (x:Vly) (h:Heap):Option Heap :=
 match T.desc t,x with
 |some (.slice e),.slice a n _ =>
  if n=0 then some h else
  (T.info e).bind λ(_,_,z) =>
  match a with
  |some ⟨A,o,none⟩=>zcP A o (za9 z n) h
  |_=>none
 |_,_=>none

def zhu (d:TypeDesc) (x y:Vly):Option Bool :=
 match d,x,y with
 | .pointer _,.pointer none,.pointer b=>some b.isNone
 | .pointer _,.pointer (some _),.pointer none=>some false
 | .slice _,.slice none _ _,.slice b _ _=>some b.isNone
 | .slice _,.slice (some _) _ _,.slice none _ _=>some false
 | .map _ _,.map none,.map b=>some b.isNone
 | .map _ _,.map (some _),.map none=>some false
 | .func _ _ _,.nilFunc,.nilFunc=>some true
 | .func _ _ _,.nilFunc,.func _ _ _=>some false
 | .func _ _ _,.func _ _ _,.nilFunc=>some false
 |_,_,_=>none

def zf3 (op:BinOp) (x y:Vly):Option Vly :=
 match op,x,y with
 | .add,.int k a,.int k' b=>if k=k' then some (.int k (k.wrap (a+b))) else none
 | .sub,.int k a,.int k' b=>if k=k' then some (.int k (k.wrap (a - b))) else none
 | .eql,.int k a,.int k' b=>if k=k' then some (.bool (a == b)) else none
 | .neq,.int k a,.int k' b=>if k=k' then some (.bool (a != b)) else none
 | .lss,.int k a,.int k' b=>if k=k' then some (.bool (a < b)) else none
 | .leq,.int k a,.int k' b=>if k=k' then some (.bool (a<=b)) else none
 | .gtr,.int k a,.int k' b=>if k=k' then some (.bool (a > b)) else none
 | .geq,.int k a,.int k' b=>if k=k' then some (.bool (a >= b)) else none
 |_,_,_=>none

def binA (op:BinOp) (t:TypeId) (x y:Vly):Option Vly :=
 match zf3 op x y with
 |some v=>some v
 |none =>
  match (T.desc t).bind λd=>zhu d x y with
  |some b=>(match op with | .eql=>some (.bool b) | .neq=>some (.bool !b)|_=>none)
  |none =>
   if plain x && plain y then
    match x,y with
    | .nilIface,_=>none
    | .agg _,.agg _=>if T.cmp t then (match op with
     | .eql=>(eqIn T 20 t x y).map λb=>.bool b
     | .neq=>(eqIn T 20 t x y).map λb=>.bool !b
     |_=>none) else none
    |_,_=>(zan P (binOp op t x y)).bind λv=>if plain v then some v else none
   else none

def lenA (t:TypeId) (x:Vly) (h:Heap):Option Vly :=
 match T.desc t,x with
 |some .string,.string s=>some (.int .i64 s.size)
 |some (.slice _),.slice _ n _=>some (.int .i64 n)
 |some (.map _ _),.map none=>some (.int .i64 0)
 |some (.map _ _),.map (some A)=>(match h.get A with
  |some (.map es _)=>some (.int .i64 es.length)
  |_=>none)
 |_,_=>none

def zg2:Vly->Vly->Bool
 | .bool a,.bool b=>a == b
 | .int j a,.int k b=>decide (j=k) && a == b
 | .string a,.string b=>a.data.toList == b.data.toList
 |_,_=>false
def zc1:List Vly->List Vly->Bool
 | [],[]=>true
 |x::xs,y::ys=>zg2 x y && zc1 xs ys
 |_,_=>false
def zff:Vly->Vly->Bool
 | .agg a,.agg b=>zc1 a.toList b.toList
 |x,y=>zg2 x y
def ze5 (kt:TypeId) (k:Vly):Bool:=if plain k then (match eqIn T 20 kt k k with|some b=>b|none=>false) else false
def zdc (kt:TypeId) (k:Vly):List MapEntry->Nat->Option (Option (Nat × Vly))
 | [],_=>some none
 |e::es,i=>(eqIn T 20 kt k e.key).bind λb=>if b then some (some (i,e.val)) else zdc kt k es (i+1)
def zih (x:Vly) (h:Heap):Option (List MapEntry) :=
 match x with
 | .map none=>some []
 | .map (some A)=>(match h.get A with|some (.map es _)=>some es|_=>none)
 |_=>none
def zdA (t:TypeId) (x k:Vly) (ok:Bool) (h:Heap):Option Vly :=
 match T.desc t with
 |some (.map kt et) =>
  if ze5 T kt k then
   (zih x h).bind λes=>(zdc T kt k es 0).bind λr=>(match r with
    |some (_,v)=>some (v,true)
    |none=>(T.zero et).map λz=>(z,false)).map λ(v,b)=>if ok then .tuple #[v,.bool b] else v
  else none
 |_=>none
def zbV (t:TypeId) (x k v:Vly) (h:Heap):Option Heap :=
 match T.desc t,x with
 |some (.map kt _),.map (some A)=>(match h.get A with
  |some (.map es clock) =>
   if ze5 T kt k then
    (zdc T kt k es 0).bind λr=>match r with
     |some (i,_)=>(es[i]?).bind λe=>if zff e.key k then some (h.set A (.map (es.modify i λe=>{ e with key:=k,val:=v }) clock)) else none
     |none=>some (h.set A (.map (es++[{ key:=k,val:=v,born:=clock }]) (clock+1)))
   else none
  |_=>none)
 |_,_=>none

def zaa (e:Env):Operand->Vly
 | .tmp t=>e.get t
 | .const v=>v
 | .global g=>.pointer (some ⟨g,0,none⟩)
 | .func f=>.func (.func f) #[] #[]

def zcs (t:TypeId) (x k:Vly) (h:Heap):Option Heap :=
 match T.desc t,x with
 |some (.map kt _),.map none=>if ze5 T kt k then some h else none
 |some (.map kt _),.map (some A)=>(match h.get A with
  |some (.map es clock) =>
   if ze5 T kt k then
    (zdc T kt k es 0).bind λr=>match r with
     |some (i,_)=>some (h.set A (.map (es.eraseIdx i) clock))
     |none=>some (h.set A (.map es clock))
   else none
  |_=>none)
 |_,_=>none

def zdo (t:TypeId) (x k:Vly) (h:Heap):Option (Vly × Heap) :=
 match T.desc t,x with
 |some (.map kt et),.map (some A)=>(match h.get A with
  |some (.map es clock) =>
   if ze5 T kt k then
    (zdc T kt k es 0).bind λr=>match r with
     |some (i,v)=>(es[i]?).bind λe=>if zff e.key k then some (.tuple #[v,.int .i64 e.born],h.set A (.map (es.modify i λe=>{ e with key:=k }) clock)) else none
     |none=>(T.zero et).map λz=>(.tuple #[z,.int .i64 clock],h.set A (.map (es++[{ key:=k,val:=z,born:=clock }]) (clock+1)))
   else none
  |_=>none)
 |_,_=>none
def zgx (s:Int):List MapEntry->Nat->Option Nat
 | [],_=>none
 |e::es,i=>if (e.born:Int)=s then some i else zgx s es (i+1)
def zaI (x s v:Vly) (h:Heap):Option Heap :=
 match x,s with
 | .map (some A),.int _ b=>(match h.get A with
  |some (.map es clock)=>(zgx b es 0).map λi=>h.set A (.map (es.modify i λe=>{ e with val:=v }) clock)
  |_=>none)
 |_,_=>none

def zbs (t:TypeId) (x:Vly) (h:Heap):Option (Vly × Heap) :=
 match T.desc t,x with
 |some (.map _ _),.map (some A)=>(match h.get A with
  |some (.map _ clock)=>some (.pointer (some ⟨h.size,0,none⟩),h.push (.iter A clock [] clock))
  |_=>none)
 |_,_=>none
def zbR (x:Vly) (h:Heap):Option (Vly × Heap) :=
 match x with
 | .pointer (some ⟨R,0,none⟩)=>(match h.get R with
  |some (.iter A since seen last)=>(match h.get A,seen with
   |some (.map [] _),_=>some (.tuple #[.bool false],h)
   |some (.map [e] clock),[]=>if e.born < since then some (.tuple #[.bool true,e.key,e.val],h.set R (.iter A since [e.born] clock)) else none
   |some (.map [e] _),[s]=>if s=e.born/\e.born < last then some (.tuple #[.bool false],h) else none
   |_,_=>none)
  |_=>none)
 |_=>none
def zb5 (x:Vly) (h:Heap):Option Vly :=
 match x with
 | .pointer (some ⟨R,0,none⟩)=>(match h.get R with
  |some (.iter A _ [s] last)=>(match h.get A with
   |some (.map [e] clock)=>if clock=last/\e.born=s then some (.tuple #[e.key,e.val]) else none
   |_=>none)
  |_=>none)
 |_=>none

def zfI (t:TypeId) (x:Vly):Option Vly:=match T.desc t with
 |some (.interface _)=>none
 |some _=>some (.iface t x)
 |none=>none
def zdk (x:Vly) (asserted:TypeId) (ok:Bool):Option Vly:=match T.desc asserted with
 |some (.interface _)=>none
 |some _=>(match x with
  | .iface t v=>if t=asserted then some (if ok then .tuple #[v,.bool true] else v) else if ok then (T.zero asserted).map λz=>.tuple #[z,.bool false] else none
  | .nilIface=>if ok then (T.zero asserted).map λz=>.tuple #[z,.bool false] else none
  |_=>none)
 |none=>none
inductive PlaceA where
 |val (v:Vly)
 |var (p:Vly)
def PlaceA.get (t:TypeId) (h:Heap):PlaceA->Option Vly
 | .val v=>some v
 | .var p=>zb1 T t p h
def zcW (h:Heap):List FieldStep->TypeId->PlaceA->Option (TypeId × PlaceA)
 | [],t,x=>some (t,x)
 |s::rest,t,x=>match T.desc s.struct with
  |some (.struct fs)=>(fs[s.index]?).bind λf =>
   if s.deref then (x.get T t h).bind λp=>(zat T s.struct p s.index).bind λq=>zcW h rest f.type (.var q)
   else match x with
    | .var p=>(zat T s.struct p s.index).bind λq=>zcW h rest f.type (.var q)
    | .val (.agg cs)=>(zfd T f.type cs.toList f.offset).bind λv=>zcW h rest f.type (.val v)
    |_=>none
  |_=>none
def zdL (xt:TypeId) (x:PlaceA) (ptr:Bool) (h:Heap):Option Vly :=
 match T.desc xt,ptr,x with
 |some (.pointer _),true,x=>x.get T xt h
 |some (.pointer elem),false,x=>(x.get T xt h).bind λp=>zb1 T elem p h
 |some _,true,.var p=>(match p with | .pointer (some a)=>some (.pointer (some a))|_=>none)
 |some _,false,x=>x.get T xt h
 |_,_,_=>none
def zcZ (t:TypeId) (v:Vly) (name:String) (h:Heap):Option (FuncId × Vly) :=
 (T.meth t name).bind λm=>(zcW T h m.path.toList t (.val v)).bind λ(xt,x)=>match m.func with
  |some (f,ptr)=>(zdL T xt x ptr h).map λr=>(f,r)
  |none=>none

def zfm:List Vly->Option (List UInt8)
 | []=>some []
 | .int .u8 n::l=>(zfm l).map (UInt8.ofNat n.toNat::·)
 |_=>none
def zcC (s d:TypeId) (x:Vly) (h:Heap):Option Vly :=
 match T.desc s,T.desc d,x with
 |some (.slice e),some .string,.slice _ _ _=>(match T.desc e with
  |some (.int .u8)=>(zc3 x 1 h).bind λl=>(zfm l).map λbs=>.string ⟨bs.toArray⟩
  |_=>none)
 |_,_,_=>none
def zbU (d:TypeId) (x:Vly) (h:Heap):Option (Vly × Heap) :=
 match T.desc d,x with
 |some (.slice e),.string b=>(match T.desc e,T.info e with
  |some (.int .u8),some (1,_,_)=>if b.size > 1152921504606846976\/e≠5 then none else some (.slice (some ⟨h.size,0,none⟩) b.size (G*1+b.size),h.push (.row (b.data.toList.map λu=>Value.int .u8 u.toNat) e false))
  |_,_=>none)
 |_,_=>none
def zcH (t:TypeId):Bool:=match T.desc t with
 |some .string=>true
 |_=>false
def za6 (t:TypeId):Bool:=match T.desc t with
 |some (.slice _)=>true
 |_=>false
def capA (t:TypeId) (x:Vly):Option Vly :=
 match T.desc t,x with
 |some (.slice _),.slice _ _ c=>if c < G then some (.int .i64 c) else none
 |_,_=>none

def zaV (e:Env) (o:Oper) (h:Heap):Option (Vly × Heap) :=
 if o.op.operands.toList.all λx=>plain (zaa e x) then
  match zan P (execOp (zaa e) o) with
  |some (.value v)=>if plain v then some (v,h) else none
  |_=>none
 else none

def zgE (t u:TypeId):Bool:=u == t || (match T.desc u with|some .string|some (.slice _)=>true|_=>false)

variable (C:Fn->List Vly->Heap->Option (Vly × Heap))

def zal (e:Env) (o:Oper) (h:Heap):Option (Vly × Heap) :=
 let v:=zaa e
 match o.op with
 | .move x=>some (v x,h)
 | .assign x=>some (v x,h)
 | .pick c a b=>match v c with | .bool t=>some (if t then v a else v b,h)|_=>none
 | .alloc t=>(T.info t).map λ(_,_,z)=>newRow t z h
 | .box t x=>some (newRow t (v x).cells.toList h)
 | .build t ps=>(zfk T t (ps.toList.map λ(i,x)=>(i,v x))).map λr=>(r,h)
 | .buildSlice t n ps=>zau T t n (ps.toList.map λ(i,x)=>(i,v x)) h
 | .load t a=>(zb1 T t (v a) h).map λr=>(r,h)
 | .store t a x=>(zeS T t (v a) (v x) h).map λh'=>(undef,h')
 | .nilCheck x=>match v x with
  | .pointer (some a)=>some (.pointer (some a),h)
  | .func (.func f) a b=>some (.func (.func f) a b,h)
  | .iface t a=>some (.iface t a,h)
  |_=>none
 | .binOp op t x y _=>(binA P T op t (v x) (v y)).map λr=>(r,h)
 | .makeFunc fn first captured=>match fn with | .func f=>some (.func (.func f) (first.map v) (captured.map v),h)|_=>none
 | .makeSlice t l c=>zbj T t (v l) (v c) h
 | .slice t x l hi m=>(zfV T t (v x) (l.map v) (hi.map v) (m.map v)).map λr=>(r,h)
 | .fieldAddr s x f=>(zat T s (v x) f).map λr=>(r,h)
 | .field t x f=>(zfF T t (v x) f).map λr=>(r,h)
 | .indexAddr t x i=>(zbF T t (v x) (v i)).map λr=>(r,h)
 | .extract t i=>match v t with | .tuple vs=>(vs[i]?).map λr=>(r,h)|_=>none
 | .unOp _ _ _=>zaV P e o h
 | .convert s d x=>if za6 T s then (zcC T s d (v x) h).map λr=>(r,h) else if za6 T d then (if zcH T s then zbU T d (v x) h else none) else zaV P e o h
 | .index _ _ _=>zaV P e o h
 | .call c=>match c.callee with
  | .builtin .append=>match c.argTypes.toList,c.args.toList with
   | [t,u],[s,x]=>if zgE T t u then zbJ T t (v s) (v x) h else none
   |_,_=>none
  | .builtin .copy=>match c.argTypes.toList,c.args.toList with
   | [t,_],[d,s]=>zgN T t (v d) (v s) h
   |_,_=>none
  | .builtin .clear=>match c.argTypes.toList,c.args.toList with
   | [t],[x]=>(zeC T t (v x) h).map λh'=>(undef,h')
   |_,_=>none
  | .builtin .len=>match c.argTypes.toList,c.args.toList with
   |t::_,[x]=>(lenA T t (v x) h).map λr=>(r,h)
   |_,_=>none
  | .builtin .min=>zaV P e o h
  | .builtin .max=>zaV P e o h
  | .builtin .delete=>match c.argTypes.toList,c.args.toList with
   |t::_,[m,k]=>(zcs T t (v m) (v k) h).map λh'=>(undef,h')
   |_,_=>none
  | .builtin .cap=>match c.argTypes.toList,c.args.toList with
   |t::_,[x]=>(capA T t (v x)).map λr=>(r,h)
   |_,_=>none
  | .invoke r name=>match v r with
   | .iface t x=>(zcZ T t x name h).bind λ(f,y)=>C (.func f) (y::c.args.toList.map v) h
   |_=>none
  | .value f=>match v f with
   | .func (.func f) first captured=>C (.func f) (first.toList++c.args.toList.map v++captured.toList) h
   | .func (.yield A) first captured=>if first.isEmpty && captured.isEmpty then C (.yield A) (c.args.toList.map v) h else none
   |_=>none
  |_=>none
 | .makeMap t r=>match r with
  |none=>some (.map (some h.size),h.push (.map [] 0))
  |some x=>(match T.desc t,v x with
   |some (.map _ _),.int _ _=>some (.map (some h.size),h.push (.map [] 0))
   |_,_=>none)
 | .lookup t x k ok=>(zdA T t (v x) (v k) ok h).map λr=>(r,h)
 | .mapUpdate t m k x=>(zbV T t (v m) (v k) (v x) h).map λh'=>(undef,h')
 | .insert t m k x=>(zbV T t (v m) (v k) (v x) h).map λh'=>(undef,h')
 | .mapEntry t m k=>zdo T t (v m) (v k) h
 | .entryStore _ m s x=>(zaI (v m) (v s) (v x) h).map λh'=>(undef,h')
 | .makeInterface t x=>(zfI T t (v x)).map λr=>(r,h)
 | .typeAssert x _ t ok=>(zdk T (v x) t ok).map λr=>(r,h)
 | .range t x=>zbs T t (v x) h
 | .next x s=>if s then none else zbR (v x) h
 | .entry x=>(zb5 (v x) h).map λr=>(r,h)
 |_=>none

def zaL (ops:Array Oper) (o:Oper) (e:Env):Bool :=
 match o.guard with
 |none=>true
 |some (j,b)=>match (ops[j]?).bind (·.dst) with
  |some t=>(match e.get t with | .bool c=>c == b|_=>false)
  |none=>false

def put (e:Env) (d:Option Tmp) (v:Vly):Env:=match d with
 |some d=>e.set d v
 |none=>e

def zaK (ops:Array Oper):List Oper->Env->Heap->Option (Env × Heap)
 | [],e,h=>some (e,h)
 |o::rest,e,h =>
  if zaL ops o e then
   match zal P T C e o h with
   |some (v,h')=>zaK ops rest (put e o.dst v) h'
   |none=>none
  else zaK ops rest (put e o.dst undef) h

inductive Ex where
 |normal
 |exit (id:Nat)
 |ret

def iter (f:Env->Heap->Option (Ex × Env × Heap)):Nat->Env->Heap->Option (Ex × Env × Heap)
 |0,_,_=>none
 |n+1,e,h=>match f e h with
  |some (.normal,e',h')=>iter f n e' h'
  |r=>r

variable (D:Array Oper->Env->Heap->Option (Env × Heap))

def zdg (rd:Option Nat) (h:Heap):Bool:=match rd with
 |none=>true
 |some A=>(match h.get A with|some (.loop ..)=>true|_=>false)
def za1 (l:Nat) (e:Env) (h:Heap):Option (Ex × Env × Heap) :=
 match h.get l with
 |some (.loop env ps assign body st pend)=>(match st with
  | .busy=>none
  |_=>(match pend with
   |none=>some (.normal,e,h.set l (.loop env ps assign body .exhausted pend))
   |some (.exit id)=>some (.exit id,e,h.set l (.loop env ps assign body .exhausted pend))
   |some .ret=>some (.ret,e,h.set l (.loop env ps assign body .exhausted pend))
   |_=>none))
 |_=>none
def ze3 (f:FuncId):Bool:=match T.fn f with
 |some fn=>(match fn.body with|some _=>true|none=>false)
 |none=>false
def zeM (rd:Option Nat) (g:Vly) (ps:List Tmp) (assign body:Code) (e:Env) (h:Heap):Option (Ex × Env × Heap) :=
 match g with
 | .func (.func f) first captured =>
  if zdg rd h && ze3 T f then
   match C (.func f) (first.toList++[.func (.yield h.size) #[] #[]]++captured.toList) (h.push (.loop e ps assign body .ready none)) with
   |some (_,h2)=>za1 h.size e h2
   |none=>none
  else none
 |_=>none

def zab (rd:Option Nat) (fuel:Nat):Code->Env->Heap->Option (Ex × Env × Heap)
 | .skip,e,h=>some (.normal,e,h)
 | .region _ ops d,e,h=>(if d then D ops e h else zaK P T C ops ops.toList e h).map λ(e',h')=>(.normal,e',h')
 | .seq a b,e,h=>match zab rd fuel a e h with
  |some (.normal,e',h')=>zab rd fuel b e' h'
  |r=>r
 | .cond c a b,e,h=>match zaa e c with
  | .bool true=>zab rd fuel a e h
  | .bool false=>zab rd fuel b e h
  |_=>none
 | .block id c,e,h=>match zab rd fuel c e h with
  |some (.exit i,e',h')=>if i=id then some (.normal,e',h') else some (.exit i,e',h')
  |r=>r
 | .loop c,e,h=>iter (zab rd fuel c) fuel e h
 | .scope c,e,h=>zab rd fuel c e h
 | .rangeFunc g ps assign body,e,h=>zeM T C rd (zaa e g) ps.toList assign body e h
 | .exit id,e,h=>some (.exit id,e,h)
 | .ret,e,h=>some (.ret,e,h)
 | .label _,e,h=>some (.normal,e,h)
 |_,_,_=>none

def zbt (e:Env) (h:Heap):ResultVar->Option Vly
 | .tmp t=>some (e.get t)
 | .cell a t=>zb1 T t (e.get a) h

def zao (fn:Func) (e:Env) (h:Heap):Option Vly :=
 match fn.results.toList with
 | [r]=>zbt T e h r
 |rs=>(rs.mapM (zbt T e h)).map λvs=>.tuple vs.toArray
end

def zcb (gs:List Nat):Operand->Bool
 | .const v=>plain v
 | .global g=>gs.contains g
 |_=>true
def opOk (gs:List Nat) (o:Oper):Bool:=o.op.operands.toList.all (zcb gs)
def za8 (gs:List Nat):Code->Bool
 | .region _ ops _=>ops.toList.all (opOk gs)
 | .seq a b=>za8 gs a && za8 gs b
 | .cond c a b=>zcb gs c && za8 gs a && za8 gs b
 | .block _ c=>za8 gs c
 | .loop c=>za8 gs c
 | .scope c=>za8 gs c
 | .rangeFunc g _ a b=>zcb gs g && za8 gs a && za8 gs b
 |_=>true
end Go.Am
namespace Go.Am
open Go.RowKit

theorem Tr.get_nil (i:Nat):Tr.get .nil i=none:=by cases i <;> rfl

theorem Tr.get_set:∀ (n:Nat) (t:Tr) (i j:Nat) (o:Blk),i < n->(Tr.set n t i o).get j=if j=i then some o else t.get j
 |0,_,_,_,_,h=>by omega
 |n+1,t,i,j,o,h=>by
  cases t with
  |nil =>
   cases i with
   |zero=>cases j with
    |zero=>simp [Tr.set,Tr.get]
    |succ j=>simp [Tr.set,Tr.get]
   |succ i =>
    have hi:i / 2 < n:=by omega
    by_cases he:i % 2=0
    .cases j with
     |zero=>simp [Tr.set,Tr.get,he]
     |succ j =>
      by_cases hj:j % 2=0
      .simp only [Tr.set,Tr.get,he,hj,beq_self_eq_true,if_true,Tr.get_set n .nil (i / 2) (j / 2) o hi]
       by_cases e:j=i
       .subst e;simp
       .rw [if_neg (by omega),if_neg (by omega)]
      .have hj1:(j % 2 == 0)=false:=by simpa using hj
       simp only [Tr.set,Tr.get,he,hj1,beq_self_eq_true,if_true,Bool.false_eq_true,if_false]
       rw [if_neg (by intro e;apply hj;have:j=i:=by omega
                      subst this;exact he)]
    .have he1:(i % 2 == 0)=false:=by simpa using he
     cases j with
     |zero=>simp [Tr.set,Tr.get,he1]
     |succ j =>
      by_cases hj:j % 2=0
      .simp only [Tr.set,Tr.get,he1,hj,beq_self_eq_true,if_true,Bool.false_eq_true,if_false]
       rw [if_neg (by intro e;apply he;have:j=i:=by omega
                      subst this;exact hj)]
      .have hj1:(j % 2 == 0)=false:=by simpa using hj
       simp only [Tr.set,Tr.get,he1,hj1,Bool.false_eq_true,if_false,Tr.get_set n .nil (i / 2) (j / 2) o hi]
       by_cases e:j=i
       .subst e;simp
       .rw [if_neg (by omega),if_neg (by omega)]
  |node v l r =>
   cases i with
   |zero=>cases j with
    |zero=>simp [Tr.set,Tr.get]
    |succ j=>simp [Tr.set,Tr.get]
   |succ i =>
    have hi:i / 2 < n:=by omega
    by_cases he:i % 2=0
    .cases j with
     |zero=>simp [Tr.set,Tr.get,he]
     |succ j =>
      by_cases hj:j % 2=0
      .simp only [Tr.set,Tr.get,he,hj,beq_self_eq_true,if_true,Tr.get_set n l (i / 2) (j / 2) o hi]
       by_cases e:j=i
       .subst e;simp
       .rw [if_neg (by omega),if_neg (by omega)]
      .have hj1:(j % 2 == 0)=false:=by simpa using hj
       simp only [Tr.set,Tr.get,he,hj1,beq_self_eq_true,if_true,Bool.false_eq_true,if_false]
       rw [if_neg (by intro e;apply hj;have:j=i:=by omega
                      subst this;exact he)]
    .have he1:(i % 2 == 0)=false:=by simpa using he
     cases j with
     |zero=>simp [Tr.set,Tr.get,he1]
     |succ j =>
      by_cases hj:j % 2=0
      .simp only [Tr.set,Tr.get,he1,hj,beq_self_eq_true,if_true,Bool.false_eq_true,if_false]
       rw [if_neg (by intro e;apply he;have:j=i:=by omega
                      subst this;exact hj)]
      .have hj1:(j % 2 == 0)=false:=by simpa using hj
       simp only [Tr.set,Tr.get,he1,hj1,Bool.false_eq_true,if_false,Tr.get_set n r (i / 2) (j / 2) o hi]
       by_cases e:j=i
       .subst e;simp
       .rw [if_neg (by omega),if_neg (by omega)]

theorem Heap.size_push (h:Heap) (b:Blk):(h.push b).size=h.size+1:=rfl
theorem Heap.size_set (h:Heap) (A:Nat) (b:Blk):(h.set A b).size=h.size:=rfl
theorem Heap.low_push (h:Heap) (b:Blk):(h.push b).low=h.low:=rfl
theorem Heap.low_set (h:Heap) (A:Nat) (b:Blk):(h.set A b).low=min h.low A:=rfl
theorem Heap.get_push (h:Heap) (b:Blk) (j:Nat):(h.push b).get j=if j=h.size then some b else h.get j:=by
 simp only [Heap.get,Heap.push,Tr.get_set _ _ _ _ _ (Nat.lt_succ_self _)]
 by_cases e:j=h.size
 .subst e;simp
 .by_cases hl:j < h.size
  .rw [if_pos (by omega),if_neg e,if_pos hl,if_neg e]
  .rw [if_neg (by omega),if_neg e,if_neg hl]
theorem Heap.get_set (h:Heap) (A:Nat) (b:Blk) (j:Nat) (hA:A < h.size):(h.set A b).get j=if j=A then some b else h.get j:=by
 simp only [Heap.get,Heap.set,Tr.get_set _ _ _ _ _ (Nat.lt_succ_self _)]
 by_cases e:j=A
 .subst e;simp [hA]
 .by_cases hl:j < h.size
  .rw [if_pos hl,if_neg e,if_pos hl,if_neg e]
  .rw [if_neg hl,if_neg e,if_neg hl]
theorem Heap.lt_of_get {h:Heap} {A:Nat} {b:Blk} (hb:h.get A=some b):A < h.size:=by
 unfold Heap.get at hb
 split at hb
 .assumption
 .cases hb

theorem Env.length_set:∀ (e:Env) (i:Nat) (v:Vly),(Env.set e i v).length=e.length
 | [],_,_=>rfl
 |_::_,0,_=>rfl
 |x::r,n+1,v=>by simp [Env.set,Env.length_set r n v]
theorem Env.get_set:∀ (e:Env) (i j:Nat) (v:Vly),(Env.set e i v).get j=if j=i/\i < e.length then v else e.get j
 | [],_,_,_=>by simp [Env.set,Env.get]
 |x::r,0,j,v=>by cases j <;> simp [Env.set,Env.get]
 |x::r,i+1,j,v=>by
  cases j with
  |zero=>simp [Env.set,Env.get]
  |succ j=>simp [Env.set,Env.get,Env.get_set r i j v]
theorem Env.get_of_ge:∀ (e:Env) (i:Nat),e.length<=i->e.get i=undef
 | [],_,_=>by simp [Env.get]
 |_::r,i+1,h=>by simp only [Env.get];exact Env.get_of_ge r i (by simpa using h)
 |_::_,0,h=>by simp at h
theorem Env.get_eq:∀ (e:Env) (i:Nat),e.get i=(e[i]?).getD undef
 | [],_=>by simp [Env.get]
 |_::_,0=>by simp [Env.get]
 |_::r,i+1=>by simp [Env.get,Env.get_eq r i]

structure Loc where
 b:Nat
 s:Nat
 tot:Nat

abbrev Rho:=Nat->Option Loc

inductive VR (ρ:Rho):Vly->Vly->Prop where
 |bool (b:Bool):VR ρ (.bool b) (.bool b)
 |int (k:IntKind) (n:Int):VR ρ (.int k n) (.int k n)
 |string (s:BAy):VR ρ (.string s) (.string s)
 |ptrNil:VR ρ (.pointer none) (.pointer none)
 |ptr {A o:Nat} {L:Loc} (h:ρ A=some L):VR ρ (.pointer (some ⟨A,o,none⟩)) (.pointer (some ⟨L.b,L.s+o,none⟩))
 |sliceNil:VR ρ (.slice none 0 0) (.slice none 0 0)
 |slice {A o n c:Nat} {L:Loc} {ad:Addr} (h:ρ A=some L) (hc:c < G) (hn:n<=c) (had:c≠0->ad=⟨L.b,L.s+o,none⟩):VR ρ (.slice (some ⟨A,o,none⟩) n c) (.slice (some ad) n c)
 |sliceG {A o n c c':Nat} {L:Loc} {ad:Addr} (h:ρ A=some L) (hc:G<=c) (hlo:c % G<=c') (hn:n<=c % G) (hk:0 < c / G)
  (hm:c'<=maxLen) (had:c'≠0->ad=⟨L.b,L.s+o,none⟩/\L.s+o+c'*(c / G)<=L.tot):VR ρ (.slice (some ⟨A,o,none⟩) n c) (.slice (some ad) n c')
 |mapNil:VR ρ (.map none) (.map none)
 |nilFunc:VR ρ .nilFunc .nilFunc
 |map {A:Nat} {L:Loc} (h:ρ A=some L):VR ρ (.map (some A)) (.map (some L.b))
 |yield {A:Nat} {L:Loc} (h:ρ A=some L):VR ρ (.func (.yield A) #[] #[]) (.func (.yield L.b) #[] #[])
 |func (fn:FuncId) {f g c d:Array Vly} (hf:f.size=g.size) (hc:c.size=d.size) (h1:∀ (i:Nat) (x y:Vly),f[i]? = some x->g[i]? = some y->VR ρ x y)
  (h2:∀ (i:Nat) (x y:Vly),c[i]? = some x->d[i]? = some y->VR ρ x y):VR ρ (.func (.func fn) f c) (.func (.func fn) g d)
 |nilIface:VR ρ .nilIface .nilIface
 |iface (t:TypeId) {x y:Vly} (h:VR ρ x y):VR ρ (.iface t x) (.iface t y)
 |agg {c d:Array Vly} (hc:c.size=d.size) (h:∀ (i:Nat) (x y:Vly),c[i]? = some x->d[i]? = some y->VR ρ x y):VR ρ (.agg c) (.agg d)
 |tuple {c d:Array Vly} (hc:c.size=d.size) (h:∀ (i:Nat) (x y:Vly),c[i]? = some x->d[i]? = some y->VR ρ x y):VR ρ (.tuple c) (.tuple d)

theorem VR.mono {ρ ρ':Rho} (hg:∀ A L,ρ A=some L->ρ' A=some L) {v u:Vly} (h:VR ρ v u):VR ρ' v u:=by
 induction h with
 |bool b=>exact .bool b
 |int k n=>exact .int k n
 |string s=>exact .string s
 |ptrNil=>exact .ptrNil
 |ptr h=>exact .ptr (hg _ _ h)
 |sliceNil=>exact .sliceNil
 |slice h hc hn had=>exact .slice (hg _ _ h) hc hn had
 |sliceG h hc hlo hn hk hm had=>exact .sliceG (hg _ _ h) hc hlo hn hk hm had
 |mapNil=>exact .mapNil
 |map h=>exact .map (hg _ _ h)
 |yield h=>exact .yield (hg _ _ h)
 |nilFunc=>exact .nilFunc
 |func fn hf hc h1 h2 i1 i2=>exact .func fn hf hc i1 i2
 |nilIface=>exact .nilIface
 |iface t h ih=>exact .iface t ih
 |agg hc h ih=>exact .agg hc ih
 |tuple hc h ih=>exact .tuple hc ih

theorem VR.undef (ρ:Rho):VR ρ undef undef:=.tuple rfl (by intro i x y hx;simp at hx)

theorem VR.of_plain1 (ρ:Rho) {v:Vly} (h:zaG v=true):VR ρ v v:=by
 cases v with
 |bool b=>exact .bool b
 |int k n=>exact .int k n
 |string s=>exact .string s
 |pointer a=>cases a with
  |none=>exact .ptrNil
  |some a=>simp [zaG] at h
 |slice a n c=>cases a with
  |none =>
   simp [zaG] at h
   obtain ⟨rfl,rfl⟩:=h
   exact .sliceNil
  |some a=>simp [zaG] at h
 |map r=>cases r with
  |none=>exact .mapNil
  |some r=>simp [zaG] at h
 |func fn f c =>
  cases fn with
  |func fn =>
   simp [zaG] at h
   obtain ⟨rfl,rfl⟩:=h
   exact .func fn rfl rfl (by intro i x y hx;simp at hx) (by intro i x y hx;simp at hx)
  |_=>simp [zaG] at h
 |nilFunc=>exact .nilFunc
 |nilIface=>exact .nilIface
 |_=>simp [zaG] at h

theorem VR.eq_plain1 {ρ:Rho} {v u:Vly} (hv:VR ρ v u) (h:zaG v=true):u=v:=by
 cases hv with
 |func fn hf hc h1 h2 =>
  simp [zaG] at h
  obtain ⟨rfl,rfl⟩:=h
  have e1:∀ (a:Array Vly),(#[]:Array Vly).size=a.size->a=#[]:=λa ha=>Array.eq_empty_of_size_eq_zero (by simpa using ha.symm)
  rw [e1 _ hf,e1 _ hc]
 |_=>first|rfl|simp [zaG] at h

theorem VR.of_plain (ρ:Rho) {v:Vly} (h:plain v=true):VR ρ v v:=by
 cases v with
 |agg cs =>
  refine .agg rfl λi x y hx hy=>?_
  have e:x=y:=by rw [hx] at hy;exact Option.some.inj hy
  subst e
  simp only [plain,List.all_eq_true] at h
  exact .of_plain1 ρ (h x (by simpa using Array.mem_of_getElem? hx))
 |_=>exact .of_plain1 ρ h

theorem VR.eq_plain {ρ:Rho} {v u:Vly} (hv:VR ρ v u) (h:plain v=true):u=v:=by
 cases hv with
 |agg hc hh =>
  rename_i c d
  congr 1
  refine Array.ext hc.symm λi h1 h2=>?_
  simp only [plain,List.all_eq_true] at h
  have hx:c[i]? = some c[i]:=Array.getElem?_eq_getElem h2
  exact (hh i _ _ hx (Array.getElem?_eq_getElem h1)).eq_plain1 (h _ (by simp))
 |tuple hc hh=>simp [plain,zaG] at h
 |func fn hf hc h1 h2=>exact (VR.func fn hf hc h1 h2).eq_plain1 h
 |_=>first|rfl|(simp [plain,zaG] at h;done)

theorem VR.one {ρ:Rho} {v u:Vly} (hv:VR ρ v u) (h:one v=true):u.oneCell'=true:=by
 cases hv <;> first|rfl|simp [Am.one] at h

def VRs (ρ:Rho) (l m:List Vly):Prop:=l.length=m.length/\∀ (i:Nat) (x y:Vly),l[i]? = some x->m[i]? = some y->VR ρ x y

theorem VRs.nil (ρ:Rho):VRs ρ [] []:=⟨rfl,by intro i x y hx;simp at hx⟩
theorem VRs.cons {ρ:Rho} {x y:Vly} {l m:List Vly} (h:VR ρ x y) (hl:VRs ρ l m):VRs ρ (x::l) (y::m) :=
 ⟨by simp [hl.1],λi a b ha hb=>by
  cases i with
  |zero=>simp at ha hb;subst ha hb;exact h
  |succ i=>exact hl.2 i a b (by simpa using ha) (by simpa using hb)⟩
theorem VRs.of_cons {ρ:Rho} {x:Vly} {l m:List Vly} (h:VRs ρ (x::l) m):∃ y m',m=y::m'/\VR ρ x y/\VRs ρ l m':=by
 cases m with
 |nil=>have:=h.1;simp at this
 |cons y m =>
  exact ⟨y,m,rfl,h.2 0 x y rfl rfl,by have:=h.1;simpa using this,λi a b ha hb=>h.2 (i+1) a b (by simpa using ha) (by simpa using hb)⟩
theorem VRs.of_nil {ρ:Rho} {m:List Vly} (h:VRs ρ [] m):m=[]:=by
 have:=h.1
 simp at this
 exact List.eq_nil_of_length_eq_zero this.symm
theorem VRs.mono {ρ ρ':Rho} (hg:∀ A L,ρ A=some L->ρ' A=some L) {l m:List Vly} (h:VRs ρ l m):VRs ρ' l m:=⟨h.1,λi x y hx hy=>(h.2 i x y hx hy).mono hg⟩
theorem VRs.append {ρ:Rho} {l m l' m':List Vly} (h:VRs ρ l m) (h':VRs ρ l' m'):VRs ρ (l++l') (m++m'):=by
 induction l generalizing m with
 |nil=>rw [h.of_nil];exact h'
 |cons x l ih =>
  obtain ⟨y,m1,rfl,hx,hl⟩:=h.of_cons
  exact .cons hx (ih hl)
theorem VRs.take {ρ:Rho} {l m:List Vly} (h:VRs ρ l m) (n:Nat):VRs ρ (l.take n) (m.take n):=by
 refine ⟨by simp [h.1],λi x y hx hy=>?_⟩
 rw [List.getElem?_take] at hx hy
 split at hx
 .rename_i hi;rw [if_pos hi] at hy;exact h.2 i x y hx hy
 .cases hx
theorem VRs.drop {ρ:Rho} {l m:List Vly} (h:VRs ρ l m) (n:Nat):VRs ρ (l.drop n) (m.drop n) :=
 ⟨by simp [h.1],λi x y hx hy=>h.2 (n+i) x y (by simpa using hx) (by simpa using hy)⟩
theorem VRs.splice {ρ:Rho} {l m l' m':List Vly} (h:VRs ρ l m) (o:Nat) (h':VRs ρ l' m'):VRs ρ (splice l o l') (splice m o m'):=by
 unfold Am.splice
 rw [<- h'.1]
 exact ((h.take o).append h').append (h.drop _)
theorem VRs.cut {ρ:Rho} {l m c:List Vly} (h:VRs ρ l m) {o n:Nat} (hc:cut l o n=some c):∃ d,cut m o n=some d/\VRs ρ c d:=by
 unfold Am.cut at hc ⊢
 split at hc
 .rename_i hl
  rw [if_pos (by rw [<- h.1];exact hl)]
  cases hc
  exact ⟨_,rfl,(h.drop o).take n⟩
 .cases hc
theorem VRs.get {ρ:Rho} {l m:List Vly} (h:VRs ρ l m) {i:Nat} {x:Vly} (hx:l[i]? = some x):∃ y,m[i]? = some y/\VR ρ x y:=by
 have hi:i < l.length:=(List.getElem?_eq_some_iff.1 hx).1
 have hy:m[i]? = some (m[i]'(by rw [<- h.1];exact hi)):=List.getElem?_eq_getElem _
 exact ⟨_,hy,h.2 i x _ hx hy⟩
theorem VRs.plain (ρ:Rho) {l:List Vly} (h:l.all zaG=true):VRs ρ l l:=by
 refine ⟨rfl,λi x y hx hy=>?_⟩
 rw [hx] at hy
 cases hy
 exact .of_plain1 ρ (List.all_eq_true.1 h x (List.mem_of_getElem? hx))
theorem VRs.one {ρ:Rho} {l m:List Vly} (h:VRs ρ l m) (h1:l.all one=true):∀ v∈m,v.oneCell'=true:=by
 intro v hv
 obtain ⟨i,hi⟩:=List.getElem?_of_mem hv
 have hl:i < l.length:=by rw [h.1];exact (List.getElem?_eq_some_iff.1 hi).1
 exact (h.2 i _ v (List.getElem?_eq_getElem hl) hi).one (List.all_eq_true.1 h1 _ (List.getElem_mem hl))
theorem VRs.toArray {ρ:Rho} {l m:List Vly} (h:VRs ρ l m):VR ρ (.agg l.toArray) (.agg m.toArray) :=
 .agg (by simp [h.1]) (λi x y hx hy=>h.2 i x y (by simpa using hx) (by simpa using hy))
theorem VRs.toTuple {ρ:Rho} {l m:List Vly} (h:VRs ρ l m):VR ρ (.tuple l.toArray) (.tuple m.toArray) :=
 .tuple (by simp [h.1]) (λi x y hx hy=>h.2 i x y (by simpa using hx) (by simpa using hy))
theorem VR.aggs {ρ:Rho} {c d:Array Vly} (h:VR ρ (.agg c) (.agg d)):VRs ρ c.toList d.toList:=by
 cases h with
 |agg hc hh=>exact ⟨by simpa using hc,λi x y hx hy=>hh i x y (by simpa using hx) (by simpa using hy)⟩
theorem VR.cells {ρ:Rho} {v u:Vly} (h:VR ρ v u):VRs ρ v.cells.toList u.cells.toList:=by
 cases h with
 |agg hc hh=>exact (VR.agg hc hh).aggs
 |_=>exact .cons (by first|exact .bool _|exact .int _ _|exact .string _|exact .ptrNil|exact .ptr ‹_› | exact .sliceNil|exact .slice ‹_› ‹_› ‹_› ‹_› | exact .sliceG ‹_› ‹_› ‹_› ‹_› ‹_› ‹_› ‹_› | exact .mapNil|exact .map ‹_› | exact .yield ‹_› | exact .nilFunc|exact .func _ ‹_› ‹_› ‹_› ‹_› | exact .nilIface|exact .iface _ ‹_› | exact .tuple ‹_› ‹_›) (.nil ρ)

def EnvR (ρ:Rho) (e:Env) (tmps:Array Vly):Prop:=e.length=tmps.size/\∀ i,VR ρ (e.get i) (tmps.getD i undef)
theorem EnvR.mono {ρ ρ':Rho} {e:Env} {tmps:Array Vly} (he:EnvR ρ e tmps) (hg:∀ A L,ρ A=some L->ρ' A=some L):EnvR ρ' e tmps:=⟨he.1,λi=>(he.2 i).mono hg⟩
def EsR (ρ:Rho) (l m:List MapEntry):Prop:=l.length=m.length/\∀ (i:Nat) (x y:MapEntry),l[i]? = some x->m[i]? = some y->VR ρ x.key y.key/\VR ρ x.val y.val/\x.born=y.born/\plain x.key=true
theorem EsR.mono {ρ ρ':Rho} (hg:∀ A L,ρ A=some L->ρ' A=some L) {l m:List MapEntry} (h:EsR ρ l m):EsR ρ' l m :=
 ⟨h.1,λi x y hx hy=>⟨(h.2 i x y hx hy).1.mono hg,(h.2 i x y hx hy).2.1.mono hg,(h.2 i x y hx hy).2.2⟩⟩

def GlobOk (gs:List Nat) (ρ:Rho):Prop:=∀ g∈gs,∃ t,ρ g=some ⟨g,0,t⟩
def OkX (ρ:Rho):Operand->Prop
 | .const v=>plain v=true
 | .global g=>∃ t,ρ g=some ⟨g,0,t⟩
 |_=>True
def OpOk (ρ:Rho) (o:Oper):Prop:=∀ x∈o.op.operands.toList,OkX ρ x
def CodeOk (ρ:Rho):Code->Prop
 | .region _ ops _=>∀ o∈ops.toList,OpOk ρ o
 | .seq a b=>CodeOk ρ a/\CodeOk ρ b
 | .cond c a b=>OkX ρ c/\CodeOk ρ a/\CodeOk ρ b
 | .block _ c=>CodeOk ρ c
 | .loop c=>CodeOk ρ c
 | .scope c=>CodeOk ρ c
 | .rangeFunc g _ a b=>OkX ρ g/\CodeOk ρ a/\CodeOk ρ b
 |_=>True
section
variable {ρ ρ':Rho} (hg:∀ A L,ρ A=some L->ρ' A=some L)
include hg
theorem GlobOk.mono {gs:List Nat} (h:GlobOk gs ρ):GlobOk gs ρ':=λg hh=>let ⟨t,ht⟩:=h g hh;⟨t,hg _ _ ht⟩
theorem OkX.mono {x:Operand} (h:OkX ρ x):OkX ρ' x:=by
 cases x with
 |global g=>exact let ⟨t,ht⟩:=h;⟨t,hg _ _ ht⟩
 |_=>exact h
theorem OpOk.mono {o:Oper} (h:OpOk ρ o):OpOk ρ' o:=λx hx=>(h x hx).mono hg
theorem CodeOk.mono:∀ {c:Code},CodeOk ρ c->CodeOk ρ' c:=by
 intro c
 induction c with
 |region id ops d=>exact λh o ho=>(h o ho).mono hg
 |seq a b iha ihb=>exact λh=>⟨iha h.1,ihb h.2⟩
 |cond c a b iha ihb=>exact λh=>⟨h.1.mono hg,iha h.2.1,ihb h.2.2⟩
 |block id c ih=>exact λh=>ih h
 |loop c ih=>exact λh=>ih h
 |scope c ih=>exact λh=>ih h
 |rangeFunc g ps a b iha ihb=>exact λh=>⟨h.1.mono hg,iha h.2.1,ihb h.2.2⟩
 |_=>exact λ_=>trivial
end
theorem OkX.of {gs:List Nat} {ρ:Rho} (hG:GlobOk gs ρ) {x:Operand} (h:zcb gs x=true):OkX ρ x:=by
 cases x with
 |global g=>exact hG g (by simpa [zcb] using h)
 |const v=>exact h
 |_=>trivial
theorem OpOk.of {gs:List Nat} {ρ:Rho} (hG:GlobOk gs ρ) {o:Oper} (h:opOk gs o=true):OpOk ρ o:=λx hx=>.of hG (List.all_eq_true.1 h x hx)
theorem CodeOk.of {gs:List Nat} {ρ:Rho} (hG:GlobOk gs ρ):∀ {c:Code},za8 gs c=true->CodeOk ρ c:=by
 intro c
 induction c with
 |region id ops d=>exact λh o ho=>.of hG (List.all_eq_true.1 h o ho)
 |seq a b iha ihb=>exact λh=>by simp only [za8,Bool.and_eq_true] at h;exact ⟨iha h.1,ihb h.2⟩
 |cond c a b iha ihb=>exact λh=>by simp only [za8,Bool.and_eq_true] at h;exact ⟨.of hG h.1.1,iha h.1.2,ihb h.2⟩
 |block id c ih=>exact λh=>ih h
 |loop c ih=>exact λh=>ih h
 |scope c ih=>exact λh=>ih h
 |rangeFunc g ps a b iha ihb=>exact λh=>by simp only [za8,Bool.and_eq_true] at h;exact ⟨.of hG h.1.1,iha h.1.2,ihb h.2⟩
 |_=>exact λ_=>trivial

def live (h:Heap) (A:Nat):Prop:=∃ b,h.get A=some b/\b≠.dead
def isRo (h:Heap) (A:Nat):Prop:=∃ cs e,h.get A=some (.row cs e true)

def zcd:TypeId:=1099511627776
def zaZ:List Vly:=Lib.asciiSpaceTab.map λz=>Value.int .u8 z
def zhQ:TypeId:=5
structure Thaw (e:TypeId) (n:Nat) (fz:Nat × Nat):Prop where
 in':∀ j,j < n->¬ (fz.1<=j/\j < fz.2)
 end':e=zhQ\/¬ (fz.1<=n/\n < fz.2)
theorem Thaw.zero (e:TypeId) (n:Nat):Thaw e n (0,0):=⟨λ_ _ h=>by have:=h.2;simp at this,.inr λh=>by have:=h.2;simp at this⟩
def BlkR (ρ:Rho) (w:World) (L:Loc):Option Blk->Prop
 |some (.row cs e true)=>(L.b < w.heap.size/\(e=zcd->cs=zaZ))/\∀ (i:Nat) (v:Vly),cs[i]? = some v->∃ u,w.cell? ⟨L.b,L.s+i,none⟩=some u/\VR ρ v u
 |some (.row cs e false)=>∃ (cur:Array Vly) (fz:Nat × Nat),w.heap[L.b]? = some (.cells cur e fz)/\Thaw e cur.size fz/\cur.size=L.tot/\∃ m,cut cur.toList L.s cs.length=some m/\VRs ρ cs m
 |some (.map es clock)=>∃ ces:Array MapEntry,w.heap[L.b]? = some (.map ces clock)/\EsR ρ es ces.toList
 |some (.loop env ps assign body st pend)=>∃ l:Loop,w.heap[L.b]? = some (.loop l)/\l.state=st/\l.pending=pend/\l.params.toList=ps/\l.assign=assign/\l.body=body/\EnvR ρ env l.tmps/\CodeOk ρ assign/\CodeOk ρ body
 |some (.iter m since seen last)=>L.s=0/\∃ M,ρ m=some M/\w.heap[L.b]? = some (.mapIter (some M.b) since seen.toArray last)
 |some .dead=>L.b < w.heap.size
 |none=>L.b < w.heap.size

theorem BlkR.keep {ρ ρ':Rho} {w w':World} {L:Loc} {b:Option Blk} (hb:BlkR ρ w L b) (hg:∀ A L,ρ A=some L->ρ' A=some L) (hsz:w.heap.size<=w'.heap.size)
 (hk:(∃ x,b=some x/\x≠.dead)->w'.heap[L.b]? = w.heap[L.b]?):BlkR ρ' w' L b:=by
 cases b with
 |none=>exact Nat.lt_of_lt_of_le hb hsz
 |some b =>
  cases b with
  |dead=>exact Nat.lt_of_lt_of_le hb hsz
  |map es clock =>
   obtain ⟨ces,hc,he⟩:=hb
   exact ⟨ces,(hk ⟨_,rfl,by simp⟩).trans hc,he.mono hg⟩
  |loop env ps assign body st pend =>
   obtain ⟨l,hc,h1,h2,h3,h4,h5,h6,h7⟩:=hb
   exact ⟨l,(hk ⟨_,rfl,by simp⟩).trans hc,h1,h2,h3,h4,h5,h6.mono hg,h7.1.mono hg,h7.2.mono hg⟩
  |iter m since seen last =>
   obtain ⟨h0,M,hm,hc⟩:=hb
   exact ⟨h0,M,hg _ _ hm,(hk ⟨_,rfl,by simp⟩).trans hc⟩
  |row cs e ro =>
   have hkk:=hk ⟨_,rfl,by simp⟩
   cases ro with
   |true =>
    refine ⟨⟨Nat.lt_of_lt_of_le hb.1.1 hsz,hb.1.2⟩,λi v hi=>?_⟩
    obtain ⟨u,hu,hvu⟩:=hb.2 i v hi
    refine ⟨u,?_,hvu.mono hg⟩
    rw [<- hu]
    simp only [World.cell?,hkk]
   |false =>
    obtain ⟨cur,fz,hc,hth,ht,m,hm,hv⟩:=hb
    exact ⟨cur,fz,hkk.trans hc,hth,ht,m,hm,hv.mono hg⟩

structure Sim (ρ:Rho) (h:Heap) (w:World):Prop where
 blk:∀ A L,ρ A=some L->BlkR ρ w L (h.get A)
 inj:∀ A A' L L',ρ A=some L->ρ A'=some L'->A≠A'->L.b=L'.b->¬ live h A\/¬ live h A'\/(isRo h A/\isRo h A')

theorem Sim.lt {ρ:Rho} {h:Heap} {w:World} (hs:Sim ρ h w) {A:Nat} {L:Loc} (hA:ρ A=some L):L.b < w.heap.size:=by
 have hb:=hs.blk A L hA
 cases hg:h.get A with
 |none=>rw [hg] at hb;exact hb
 |some b =>
  rw [hg] at hb
  cases b with
  |dead=>exact hb
  |map es clock =>
   obtain ⟨ces,hc,_⟩:=hb
   exact (Array.getElem?_eq_some_iff.1 hc).1
  |loop env ps assign body st pend =>
   obtain ⟨l,hc,_⟩:=hb
   exact (Array.getElem?_eq_some_iff.1 hc).1
  |iter m since seen last =>
   obtain ⟨_,M,_,hc⟩:=hb
   exact (Array.getElem?_eq_some_iff.1 hc).1
  |row cs e ro =>
   cases ro with
   |true=>exact hb.1.1
   |false =>
    obtain ⟨cur,fz,hc,_⟩:=hb
    exact (Array.getElem?_eq_some_iff.1 hc).1

def Free (ρ:Rho) (h h':Heap):Prop:=∀ A,h.size<=A->A < h'.size->ρ A=none

structure Fr (ρ ρ':Rho) (h h':Heap) (w w':World):Prop where
 grow:∀ A L,ρ A=some L->ρ' A=some L
 fresh:∀ A L,ρ' A=some L->ρ A=none->h.size<=A/\A < h'.size/\(w.heap.size<=L.b\/∃ A0 L0,ρ A0=some L0/\L0.b=L.b/\h'.low<=A0/\A0 < h'.size)
 os:w'.os=w.os
 tape:w'.tape=w.tape
 output:w'.output=w.output
 size:w.heap.size<=w'.heap.size
 hsize:h.size<=h'.size
 low:h'.low<=h.low
 keep:∀ b,b < w.heap.size->(∀ A L,ρ A=some L->L.b=b->A < h'.low\/h'.size<=A)->w'.heap[b]? = w.heap[b]?
 akeep:∀ A,A < h.size->A < h'.low->h'.get A=h.get A

theorem Fr.refl (ρ:Rho) (h:Heap) (w:World):Fr ρ ρ h h w w :=
 ⟨λ_ _ h=>h,λA L h1 h2=>(by rw [h1] at h2;cases h2),rfl,rfl,rfl,Nat.le_refl _,Nat.le_refl _,Nat.le_refl _,λ_ _ _=>rfl,λ_ _ _=>rfl⟩

theorem Fr.trans {ρ ρ' ρ'':Rho} {h h' h'':Heap} {w w' w'':World} (f:Fr ρ ρ' h h' w w') (g:Fr ρ' ρ'' h' h'' w' w''):Fr ρ ρ'' h h'' w w'':=by
 refine ⟨λA L hA=>g.grow A L (f.grow A L hA),?_,g.os.trans f.os,g.tape.trans f.tape,g.output.trans f.output,Nat.le_trans f.size g.size,Nat.le_trans f.hsize g.hsize,Nat.le_trans g.low f.low,?_,?_⟩
 .intro A L hA hn
  cases hρ:ρ' A with
  |some L1 =>
   have e:L1=L:=by have:=g.grow A L1 hρ;rw [hA] at this;exact (Option.some.inj this).symm
   subst e
   obtain ⟨h1,h1',h2⟩:=f.fresh A L1 hρ hn
   refine ⟨h1,Nat.lt_of_lt_of_le h1' g.hsize,?_⟩
   rcases h2 with h2|⟨A0,L0,h0,he,hl,hl'⟩
   .exact .inl h2
   .exact .inr ⟨A0,L0,h0,he,Nat.le_trans g.low hl,Nat.lt_of_lt_of_le hl' g.hsize⟩
  |none =>
   obtain ⟨h1,h1',h2⟩:=g.fresh A L hA hρ
   refine ⟨Nat.le_trans f.hsize h1,h1',?_⟩
   rcases h2 with h2|⟨A0,L0,h0,he,hl,hl'⟩
   .exact .inl (Nat.le_trans f.size h2)
   .cases hρ0:ρ A0 with
    |some L1 =>
     have e:L1=L0:=by have:=f.grow A0 L1 hρ0;rw [h0] at this;exact (Option.some.inj this).symm
     subst e
     exact .inr ⟨A0,L1,hρ0,he,hl,hl'⟩
    |none =>
     rcases (f.fresh A0 L0 h0 hρ0).2.2 with h3|⟨A1,L1,h3,he3,hl3,hl3'⟩
     .exact .inl (by omega)
     .exact .inr ⟨A1,L1,h3,he3.trans he,Nat.le_trans g.low hl3,Nat.lt_of_lt_of_le hl3' g.hsize⟩
 .intro b hb hall
  have hall':∀ A L,ρ A=some L->L.b=b->A < h'.low\/h'.size<=A:=λA L hA hL=>by
   have h1:=hall A L hA hL
   have h2:=g.low
   have h3:=g.hsize
   omega
  rw [g.keep b (Nat.lt_of_lt_of_le hb f.size) ?_,f.keep b hb hall']
  intro A L hA hL
  cases hρ:ρ A with
  |some L0 =>
   have e:L0=L:=by have:=f.grow A L0 hρ;rw [hA] at this;exact (Option.some.inj this).symm
   subst e
   exact hall A L0 hρ hL
  |none =>
   rcases (f.fresh A L hA hρ).2.2 with h1|⟨A0,L0,h0,he,hl,hl'⟩
   .omega
   .have h1:=hall A0 L0 h0 (he.trans hL)
    have h2:=g.low
    have h3:=g.hsize
    omega
 .intro A hA hl
  rw [g.akeep A (Nat.lt_of_lt_of_le hA f.hsize) hl,f.akeep A hA (Nat.lt_of_lt_of_le hl g.low)]

theorem Free.left {ρ:Rho} {h h1 h2:Heap} (hf:Free ρ h h2) (hle:h1.size<=h2.size):Free ρ h h1:=λA h3 h4=>hf A h3 (Nat.lt_of_lt_of_le h4 hle)
theorem Free.right {ρ ρ':Rho} {h h1 h2:Heap} {w w':World} (hf:Free ρ h h2) (fr:Fr ρ ρ' h h1 w w'):Free ρ' h1 h2:=by
 intro A h3 h4
 cases hA:ρ' A with
 |none=>rfl
 |some L =>
  have hn:=hf A (Nat.le_trans fr.hsize h3) h4
  have:=(fr.fresh A L hA hn).2.1
  omega

end Go.Am
namespace Go.Am
open Go.RowKit

structure Tab.Fits (T:Tab) (P:Program):Prop where
 desc:∀ t d,T.desc t=some d->P.underlying t=some d
 info:∀ t n b z,T.info t=some (n,b,z)->∃ i zv,P.info? t=some i/\i.size=n/\i.bytes=b/\i.zero=some zv/\zv.cells.toList=z/\z.length=n/\z.all zaG=true
 fn:∀ f fn,T.fn f=some fn->P.funcs[f]? = some fn/\(fn.name == "runtime.NumGoroutine")=false/\∀ c,fn.body=some c->za8 T.gs c=true
 cmp:∀ t,T.cmp t=true->P.stoodInHeld t=false/\P.eqGuardType P.depth t=false
 zero:∀ t v,T.zero t=some v->(∃ i,P.info? t=some i/\i.zero=some v)/\plain v=true
 meth:∀ t name m,T.meth t name=some m->∃ i,P.info? t=some i/\i.methods.find? (·.name == name)=some m

theorem zay {l m:List Vly} {o n:Nat} (h:cut l o n=some m):o+n<=l.length/\m.length=n/\∀ i,i < n->m[i]? = l[o+i]? := by
 unfold cut at h
 split at h
 .rename_i hl
  cases h
  refine ⟨hl,by simp;omega,λi hi=>?_⟩
  rw [List.getElem?_take,if_pos hi,List.getElem?_drop]
 .cases h
theorem zbv {l m:List Vly} {o n:Nat} (hl:o+n<=l.length) (hm:m.length=n) (h:∀ i,i < n->m[i]? = l[o+i]?):cut l o n=some m:=by
 unfold cut
 rw [if_pos hl]
 congr 1
 refine List.ext_getElem? λi=>?_
 rw [List.getElem?_take]
 split
 .rename_i hi;rw [List.getElem?_drop,h i hi]
 .rw [List.getElem?_eq_none (by omega)]

theorem zae {l vs:List Vly} {o:Nat} (h:o+vs.length<=l.length):(splice l o vs).length=l.length:=by
 simp [splice];omega
theorem getElem?_splice (l vs:List Vly) (o i:Nat) (h:o+vs.length<=l.length):(splice l o vs)[i]? = if i < o then l[i]? else if i < o+vs.length then vs[i - o]? else l[i]? := by
 unfold splice
 rw [List.getElem?_append,List.getElem?_append]
 have hl:(l.take o).length=o:=by simp;omega
 simp only [List.length_append,hl]
 by_cases h1:i < o
 .rw [if_pos (by omega),if_pos h1,if_pos h1,List.getElem?_take,if_pos h1]
 .rw [if_neg h1]
  by_cases h2:i < o+vs.length
  .rw [if_pos h2,if_neg h1,if_pos h2]
  .rw [if_neg h2,if_neg h2,List.getElem?_drop]
   rw [show o+vs.length+(i - (o+vs.length))=i by omega,if_neg h1]
theorem zgP {cur m us:List Vly} {s n o:Nat} (hc:cut cur s n=some m) (ho:o+us.length<=n):cut (splice cur (s+o) us) s n=some (splice m o us):=by
 obtain ⟨h1,h2,h3⟩:=zay hc
 refine zbv (by rw [zae (by omega)];exact h1) (by rw [zae (by omega)];exact h2) λi hi=>?_
 rw [getElem?_splice _ _ _ _ (by omega),getElem?_splice _ _ _ _ (by omega)]
 by_cases h4:i < o
 .rw [if_pos h4,if_pos (show s+i < s+o by omega),h3 i hi]
 .rw [if_neg h4,if_neg (show ¬ s+i < s+o by omega)]
  by_cases h5:i < o+us.length
  .rw [if_pos h5,if_pos (show s+i < s+o+us.length by omega)]
   congr 1
   omega
  .rw [if_neg h5,if_neg (show ¬ s+i < s+o+us.length by omega),h3 i hi]

section
variable {P:Program} {T:Tab} {ρ:Rho} {h h':Heap} {w:World}

theorem zba (hs:Sim ρ h w) {A o n:Nat} {L:Loc} {l:List Vly} (hA:ρ A=some L) (hc:zav A o n h=some l) :
 ∃ m,VRs ρ l m/\m.length=n/\w.rangeAt L.b (L.s+o) m:=by
 have hb:=hs.blk A L hA
 unfold zav at hc
 cases hg:h.get A with
 |none=>rw [hg] at hc;cases hc
 |some b =>
  rw [hg] at hc hb
  cases b with
  |dead=>cases hc
  |map es clock=>cases hc
  |loop env ps assign body st pend=>cases hc
  |iter m since seen last=>cases hc
  |row cs e ro =>
   obtain ⟨h1,h2,h3⟩:=zay hc
   cases ro with
   |true =>
    obtain ⟨_,hcell⟩:=hb
    have hex:∀ i,i < n->∃ u,w.cell? ⟨L.b,L.s+(o+i),none⟩=some u/\∀ x,l[i]? = some x->VR ρ x u:=by
     intro i hi
     have hx:cs[o+i]? = some (cs[o+i]'(by omega)):=List.getElem?_eq_getElem _
     obtain ⟨u,hu,hv⟩:=hcell (o+i) _ hx
     refine ⟨u,hu,λx hxx=>?_⟩
     rw [h3 i hi,hx] at hxx
     cases hxx
     exact hv
    refine ⟨(List.range n).map λi=>(w.cell? ⟨L.b,L.s+(o+i),none⟩).getD undef,⟨by simp [h2],λi x y hx hy=>?_⟩,by simp,λj v hv=>?_⟩
    .have hi:i < n:=by rw [<- h2];exact (List.getElem?_eq_some_iff.1 hx).1
     obtain ⟨u,hu,hv⟩:=hex i hi
     rw [List.getElem?_map,List.getElem?_range hi,Option.map_some,hu] at hy
     cases hy
     exact hv x hx
    .have hj:j < n:=by have:=(List.getElem?_eq_some_iff.1 hv).1;simpa using this
     obtain ⟨u,hu,_⟩:=hex j hj
     rw [List.getElem?_map,List.getElem?_range hj,Option.map_some,hu] at hv
     cases hv
     rw [Nat.add_assoc]
     exact hu
   |false =>
    obtain ⟨cur,fz,hcur,_,_,m,hm,hv⟩:=hb
    obtain ⟨d,hd,hvd⟩:=hv.cut hc
    obtain ⟨k1,k2,k3⟩:=zay hm
    obtain ⟨d1,d2,d3⟩:=zay hd
    refine ⟨d,hvd,d2,λj v hj=>?_⟩
    have hjn:j < n:=by rw [<- d2];exact (List.getElem?_eq_some_iff.1 hj).1
    rw [cell_of_row w L.b _ cur e fz hcur]
    rw [d3 j hjn,k3 (o+j) (by rw [k2] at d1;omega)] at hj
    rw [<- Array.getElem?_toList,Nat.add_assoc]
    exact hj

theorem zcx (hT:T.Fits P) (hs:Sim ρ h w) {t:TypeId} {x y v:Vly} (hxy:VR ρ x y) (hl:zb1 T t x h=some v) :
 ∃ u,(Instr.loadAt t y).run P w=.ok u w/\VR ρ v u:=by
 cases hxy with
 |ptr hA =>
  rename_i A o L
  simp only [zb1] at hl
  cases hg:T.desc t with
  |none=>simp [aggA,hg] at hl
  |some d =>
   have hu:=hT.desc t d hg
   have key:∀ (n:Nat) (l:List Vly),T.info t≠none->zav A o n h=some l->d.isRow=true->(T.info t).map (·.1)=some n->v=.agg l.toArray->∃ u,(Instr.loadAt t (.pointer (some ⟨L.b,L.s+o,none⟩))).run P w=.ok u w/\VR ρ v u:=by
    intro n l _ hc hd hi hv
    obtain ⟨m,hm,hlen,hr⟩:=zba hs hA hc
    cases hinf:T.info t with
    |none=>simp [hinf] at hi
    |some q =>
     obtain ⟨q1,q2,q3⟩:=q
     obtain ⟨i,zv,e1,e2,_⟩:=hT.info t q1 q2 q3 hinf
     simp [hinf] at hi
     refine ⟨.agg m.toArray,run_loadAt_mid w L.b (L.s+o) t m d hr hu hd (by rw [e1];simp [e2,hi,hlen]),?_⟩
     rw [hv]
     exact hm.toArray
   have key1:∀ (l:List Vly),zav A o 1 h=some l->l[0]? = some v->d.isRow=false->∃ u,(Instr.loadAt t (.pointer (some ⟨L.b,L.s+o,none⟩))).run P w=.ok u w/\VR ρ v u:=by
    intro l hc h0 hd
    obtain ⟨m,hm,hlen,hr⟩:=zba hs hA hc
    obtain ⟨u,hu0,hv0⟩:=hm.get h0
    have hcell:=hr 0 u hu0
    refine ⟨u,?_,hv0⟩
    have hagg:(isAgg t).run P w=.ok false w:=by
     unfold isAgg
     rw [Sem.run_bind,run_underlying hu w]
     cases d <;> simp_all
    simp only [Nat.add_zero] at hcell
    simp [Instr.loadAt,Instr.sureAddr,loadVar,Sem.run_bind,hagg,hcell]
   have hcase:(∃ n l,T.info t≠none/\zav A o n h=some l/\d.isRow=true/\(T.info t).map (·.1)=some n/\v=.agg l.toArray)\/(∃ l,zav A o 1 h=some l/\l[0]? = some v/\d.isRow=false):=by
    have hrow:∀ (hl:((zb2 T t).bind λn=>(zav A o n h).map λl=>Value.agg l.toArray)=some v) (hd:d.isRow=true),
     ∃ n l,T.info t≠none/\zav A o n h=some l/\d.isRow=true/\(T.info t).map (·.1)=some n/\v=.agg l.toArray:=by
     intro hl hd
     simp only [zb2,Option.bind_eq_some_iff,Option.map_eq_some_iff] at hl
     obtain ⟨n,⟨q,hq,rfl⟩,l,hc,rfl⟩:=hl
     exact ⟨q.1,l,by rw [hq];simp,hc,hd,by rw [hq];rfl,rfl⟩
    cases d <;> simp only [aggA,hg,Option.map_some,Option.bind_some,if_true,Bool.false_eq_true,if_false] at hl <;>
     first
      |(left;exact hrow hl rfl)
      |(right;simp only [Option.bind_eq_some_iff] at hl;obtain ⟨l,hc,h0⟩:=hl;exact ⟨l,hc,h0,rfl⟩)
   rcases hcase with ⟨n,l,a,b,c,d',e⟩|⟨l,a,b,c⟩
   .exact key n l a b c d' e
   .exact key1 l a b c
 |_=>simp [zb1] at hl

theorem zbm (hs:Sim ρ h w) {A:Nat} {L:Loc} {b b':Blk} {W:World} (hA:ρ A=some L) (hg:h.get A=some b) (hlive:b≠.dead) (hro:∀ cs e,b≠.row cs e true)
 (hos:W.os=w.os) (htape:W.tape=w.tape) (hout:W.output=w.output) (hsz:W.heap.size=w.heap.size) (hother:∀ k,k≠L.b->W.heap[k]? = w.heap[k]?) (hb':BlkR ρ W L (some b')) :
 Fr ρ ρ h (h.set A b') w W/\Sim ρ (h.set A b') W:=by
 have hAs:A < h.size:=Heap.lt_of_get hg
 refine ⟨⟨λ_ _ h=>h,λA' L' h1 h2=>(by rw [h1] at h2;cases h2),hos,htape,hout,by rw [hsz];exact Nat.le_refl _,Nat.le_refl _,Nat.min_le_left _ _,?_,?_⟩,⟨?_,?_⟩⟩
 .intro b hb hall
  refine hother b λe=>?_
  subst e
  have:=hall A L hA rfl
  rw [Heap.low_set,Heap.size_set] at this
  omega
 .intro A' hA' hl
  rw [Heap.low_set] at hl
  rw [Heap.get_set _ _ _ _ hAs,if_neg (by omega)]
 .intro A' L' hA'
  rw [Heap.get_set _ _ _ _ hAs]
  by_cases e':A'=A
  .subst e'
   rw [hA] at hA'
   cases hA'
   rw [if_pos rfl]
   exact hb'
  .rw [if_neg e']
   refine (hs.blk A' L' hA').keep (λ_ _ h=>h) (by omega) ?_
   rintro ⟨x,hx,hxd⟩
   refine hother L'.b λheq=>?_
   rcases hs.inj A' A L' L hA' hA e' heq with h1|h1|h1
   .exact h1 ⟨x,hx,hxd⟩
   .exact h1 ⟨_,hg,hlive⟩
   .obtain ⟨_,cs2,e2,hg2⟩:=h1
    rw [hg] at hg2
    cases hg2
    exact hro _ _ rfl
 .intro A1 A2 L1 L2 h1 h2 hne hb
  have hlv:∀ A',¬ live h A'->¬ live (h.set A b') A':=by
   intro A' hd
   by_cases e':A'=A
   .subst e';exact (hd ⟨_,hg,hlive⟩).elim
   .unfold live at hd ⊢
    rw [Heap.get_set _ _ _ _ hAs,if_neg e']
    exact hd
  have hro':∀ A',isRo h A'->isRo (h.set A b') A':=by
   rintro A' ⟨cs2,e2,hg2⟩
   refine ⟨cs2,e2,?_⟩
   rw [Heap.get_set _ _ _ _ hAs,if_neg (by intro e';subst e';rw [hg] at hg2;cases hg2;exact hro _ _ rfl)]
   exact hg2
  rcases hs.inj A1 A2 L1 L2 h1 h2 hne hb with h3|h3|⟨h3,h4⟩
  .exact .inl (hlv _ h3)
  .exact .inr (.inl (hlv _ h3))
  .exact .inr (.inr ⟨hro' _ h3,hro' _ h4⟩)

theorem zaw (P:Program) (g o:Nat) (t:TypeId) (fz:Nat × Nat):∀ (vs:List Vly) (i:Nat) (cur:Array Vly) (w:World),w.heap[g]? = some (.cells cur t fz)->Thaw t cur.size fz->o+i+vs.length<=cur.size->(∀ v∈vs,v.oneCell'=true) ->
 (storeCells ⟨g,o,none⟩ vs i).run P w=.ok () (w.setRow g (cur.toList.take (o+i)++vs++cur.toList.drop (o+i+vs.length)).toArray)
 | [],i,cur,w,hg,_,_,_=>by
  simp only [storeCells,List.append_nil,List.length_nil,Nat.add_zero,List.take_append_drop,Array.toArray_toList]
  rw [setRow_self w g cur t fz hg]
  rfl
 |v::rest,i,cur,w,hg,hfz,hl,h1=>by
  have hi:o+i < cur.size:=by simp at hl;omega
  have hadd:(⟨g,o,none⟩:Addr).add i=⟨g,o+i,none⟩:=by unfold Addr.add;split <;> simp_all
  have hcell:w.cell? ⟨g,o+i,none⟩=some cur[o+i]:=by simp [World.cell?,hg,hi]
  have hfro:w.frozen? ⟨g,o+i,none⟩=false:=by
   have h0:=hfz.in' (o+i) hi
   obtain ⟨lo,hi'⟩:=fz
   simp only [World.frozen?,hg,Bool.and_eq_false_iff,decide_eq_false_iff_not]
   simp only at h0
   omega
  have hst:(store ((⟨g,o,none⟩:Addr).add i) v).run P w=.ok () (w.setRow g (cur.setIfInBounds (o+i) v)):=by
   rw [hadd,run_store P w _ v _ (h1 v (by simp)),hcell]
   simp [hfro,setCell_eq_setRow w g (o+i) cur t fz v hg]
  have ih:=zaw P g o t fz rest (i+1) (cur.setIfInBounds (o+i) v) (w.setRow g (cur.setIfInBounds (o+i) v)) (setRow_heap w g cur _ t _ hg) (by simpa using hfz) (by simp at hl ⊢;omega) (λx hx=>h1 x (by simp [hx]))
  simp only [storeCells,Sem.run_bind,hst,Result.andThen_ok,ih,setRow_setRow]
  congr 3
  have e:=list_seg_step cur.toList (o+i) v rest (by simp at hl ⊢;omega)
  simpa [Array.toList_setIfInBounds,Nat.add_assoc] using e

theorem za4 (hs:Sim ρ h w) {A o:Nat} {L:Loc} {vs us:List Vly} (hA:ρ A=some L) (hv:VRs ρ vs us) (hw:zcP A o vs h=some h') :
 ∃ w',(storeCells ⟨L.b,L.s+o,none⟩ us 0).run P w=.ok () w'/\Fr ρ ρ h h' w w'/\Sim ρ h' w':=by
 have hb:=hs.blk A L hA
 unfold zcP at hw
 split at hw
 .rename_i cs e hg
  split at hw
  .rename_i hc
   simp only [Bool.and_eq_true,decide_eq_true_eq] at hc
   obtain ⟨ho,h1⟩:=hc
   cases hw
   rw [hg] at hb
   obtain ⟨cur,fz,hcur,hth,htot,m,hm,hvm⟩:=hb
   obtain ⟨k1,k2,k3⟩:=zay hm
   have hlu:vs.length=us.length:=hv.1
   have hst:=zaw P L.b (L.s+o) e fz us 0 cur w hcur hth (by simp at k1 ⊢;omega) (hv.one h1)
   simp only [Nat.add_zero] at hst
   let cur':=(cur.toList.take (L.s+o)++us++cur.toList.drop (L.s+o+us.length)).toArray
   have hcur':(w.setRow L.b cur').heap[L.b]? = some (.cells cur' e fz):=setRow_heap w L.b cur cur' e _ hcur
   have hsz:(w.setRow L.b cur').heap.size=w.heap.size:=by simp [World.setRow]
   have hth':Thaw e cur'.size fz:=by
    have:=zae (l:=cur.toList) (vs:=us) (o:=L.s+o) (by simp at k1 ⊢;omega)
    have h2:cur'.size=cur.size:=by simpa [cur',splice] using this
    rw [h2]
    exact hth
   refine ⟨w.setRow L.b cur',hst,zbm hs hA hg (by simp) (by simp) rfl rfl rfl hsz (λb hb=>setRow_other w L.b b cur' hb) ⟨cur',fz,hcur',hth',?_,splice m o us,?_,hvm.splice o hv⟩⟩
   .show cur'.size=L.tot
    rw [<- htot]
    have:=zae (l:=cur.toList) (vs:=us) (o:=L.s+o) (by simp at k1 ⊢;omega)
    simpa [cur',splice] using this
   .rw [zae ho]
    have:=zgP (us:=us) (o:=o) hm (by omega)
    simpa [cur',splice] using this
  .cases hw
 .cases hw

theorem zbr (hs:Sim ρ h w) (hnone:ρ h.size=none) {W:World} {L:Loc} {b:Blk} (hold:∀ k,k < w.heap.size->W.heap[k]? = w.heap[k]?) (hsz:w.heap.size<=W.heap.size)
 (hos:W.os=w.os) (htape:W.tape=w.tape) (hout:W.output=w.output) (hL:w.heap.size<=L.b) (hb:∀ ρ',(∀ A L,ρ A=some L->ρ' A=some L)->BlkR ρ' W L (some b)) :
 ∃ ρ',ρ' h.size=some L/\Fr ρ ρ' h (h.push b) w W/\Sim ρ' (h.push b) W:=by
 have hgrow:∀ A L',ρ A=some L'->(λA=>if A=h.size then some L else ρ A) A=some L':=by
  intro A L' hA
  have hne:A≠h.size:=λe=>by rw [e,hnone] at hA;cases hA
  simp only [if_neg hne]
  exact hA
 refine ⟨λA=>if A=h.size then some L else ρ A,by simp,⟨hgrow,?_,hos,htape,hout,hsz,by rw [Heap.size_push];omega,Nat.le_refl _,λb hb _=>hold b hb,?_⟩,⟨?_,?_⟩⟩
 .intro A L' hA hn
  split at hA
  .rename_i e1;cases hA;exact ⟨by omega,by rw [Heap.size_push];omega,.inl hL⟩
  .rw [hn] at hA;cases hA
 .intro A hA _
  rw [Heap.get_push,if_neg (by omega)]
 .intro A L' hA
  rw [Heap.get_push]
  split at hA
  .rename_i e1
   cases hA
   rw [if_pos e1]
   exact hb _ hgrow
  .rename_i e1
   rw [if_neg e1]
   exact (hs.blk A L' hA).keep hgrow hsz λ_=>hold _ (hs.lt hA)
 .intro A1 A2 L1 L2 h1 h2 hne hbb
  have hget:∀ A,A≠h.size->(h.push b).get A=h.get A:=λA hA=>by rw [Heap.get_push,if_neg hA]
  split at h1
  .split at h2
   .omega
   .rename_i e1 e2
    cases h1
    have:=hs.lt h2
    omega
  .split at h2
   .rename_i e1 e2
    cases h2
    have:=hs.lt h1
    omega
   .rename_i e1 e2
    unfold live isRo
    rw [hget A1 e1,hget A2 e2]
    exact hs.inj A1 A2 L1 L2 h1 h2 hne hbb

theorem zdH (hs:Sim ρ h w) (hnone:ρ h.size=none) {W:World} {cs m:List Vly} {cur:Array Vly} {e:TypeId} {fz:Nat × Nat} (hth:Thaw e cur.size fz) (hW:W.heap=w.heap.push (.cells cur e fz))
 (hos:W.os=w.os) (htape:W.tape=w.tape) (hout:W.output=w.output) (hcut:cut cur.toList 0 cs.length=some m) (hv:VRs ρ cs m) :
 ∃ ρ',ρ' h.size=some ⟨w.heap.size,0,cur.size⟩/\Fr ρ ρ' h (h.push (.row cs e false)) w W/\Sim ρ' (h.push (.row cs e false)) W:=by
 refine zbr hs hnone (λk hk=>by rw [hW,Array.getElem?_push,if_neg (by omega)]) (by rw [hW];simp) hos htape hout (Nat.le_refl _) λρ' hg=>?_
 exact ⟨cur,fz,by rw [hW];simp,hth,rfl,m,hcut,hv.mono hg⟩
theorem zbk (hs:Sim ρ h w) (hnone:ρ h.size=none) {W:World} {cs m:List Vly} {cur:Array Vly} {e:TypeId} (hW:W.heap=w.heap.push (.cells cur e (0,0)))
 (hos:W.os=w.os) (htape:W.tape=w.tape) (hout:W.output=w.output) (hcut:cut cur.toList 0 cs.length=some m) (hv:VRs ρ cs m) :
 ∃ ρ',ρ' h.size=some ⟨w.heap.size,0,cur.size⟩/\Fr ρ ρ' h (h.push (.row cs e false)) w W/\Sim ρ' (h.push (.row cs e false)) W :=
 zdH hs hnone (.zero _ _) hW hos htape hout hcut hv

theorem Sim.same (hs:Sim ρ h w) {W:World} (hW:W.heap=w.heap):Sim ρ h W :=
 ⟨λA L hA=>(hs.blk A L hA).keep (λ_ _ h=>h) (by rw [hW];exact Nat.le_refl _) (λ_=>by rw [hW]),hs.inj⟩
end
end Go.Am
namespace Go.Am
open Go.RowKit

theorem zbu (z:Array Vly) (n:Nat):((Array.range (n*z.size)).map λi=>z[i % z.size]!).toList=za9 z.toList n:=by
 induction n with
 |zero=>simp [za9]
 |succ n ih =>
  have hr:Array.range ((n+1)*z.size)=Array.range (n*z.size)++(Array.range z.size).map (n*z.size+·):=by
   apply Array.ext'
   simp only [Array.toList_range,Array.toList_append,Array.toList_map,Nat.add_mul,Nat.one_mul,List.range_add]
  rw [hr,Array.map_append,Array.toList_append,ih]
  simp only [za9,List.replicate_succ',List.flatten_append,List.flatten_singleton]
  congr 1
  apply List.ext_getElem?
  intro i
  by_cases hi:i < z.size
  .simp [hi,Nat.mod_eq_of_lt hi]
  .simp [hi]

theorem ze7 (z:List Vly) (n:Nat):(za9 z n).length=n*z.length:=by simp [za9]

theorem zcc {z:List Vly} (h:z.all zaG=true) (n:Nat):(za9 z n).all zaG=true:=by
 simp only [za9,List.all_eq_true,List.mem_flatten,List.mem_replicate] at *
 rintro x ⟨l,⟨_,rfl⟩,hx⟩
 exact h x hx


section
variable {P:Program} {T:Tab} {ρ:Rho} {h h':Heap} {w:World}

theorem zc6 {b o q:Nat} {m:List Vly} (h:w.rangeAt b o m):w.rangeAt b o (m.take q):=by
 intro j v hv
 rw [List.getElem?_take] at hv
 split at hv
 .exact h j v hv
 .cases hv

theorem zas {b o k q n c:Nat} {m:List Vly} (h:w.rangeAt b o m) (hl:m.length=q*k):(Builtin.firstCells k q (.slice (some ⟨b,o,none⟩) n c)).run P w=.ok m.toArray w :=
 run_firstCells_some w k q ⟨b,o,none⟩ n c m hl (λj v hv=>by rw [Addr.add_mid];exact h j v hv)

theorem zb4 (hs:Sim ρ h w) {a:Option Addr} {n c k:Nat} {y:Vly} {l:List Vly} (hxy:VR ρ (.slice a n c) y) (hc:zc3 (.slice a n c) k h=some l) :
 ∃ a' c' m,y=.slice a' n c'/\VRs ρ l m/\m.length=n*k/\∀ W:World,W.heap=w.heap->∀ q,q<=n->(Builtin.firstCells k q y).run P W=.ok (m.take (q*k)).toArray W:=by
 have hzero:∀ (q:Nat) (ad:Addr) (c':Nat) (W:World),q*k=0->(Builtin.firstCells k q (.slice (some ad) n c')).run P W=.ok #[] W:=by
  intro q ad c' W hq
  simp [Builtin.firstCells,hq,loadCells,loadCellsFrom]
 have hcases:∀ {A o:Nat} {L:Loc} {ad:Addr} {c':Nat},ρ A=some L->(n≠0->ad=⟨L.b,L.s+o,none⟩)->zc3 (.slice (some ⟨A,o,none⟩) n c) k h=some l ->
  ∃ m,VRs ρ l m/\m.length=n*k/\∀ W:World,W.heap=w.heap->∀ q,q<=n->(Builtin.firstCells k q (.slice (some ad) n c')).run P W=.ok (m.take (q*k)).toArray W:=by
  intro A o L ad c' hA had hc
  simp only [zc3] at hc
  split at hc
  .rename_i h0
   cases hc
   refine ⟨[],.nil ρ,by simp [h0],λW _ q hq=>?_⟩
   have h1:q*k=0:=by
    rcases Nat.mul_eq_zero.1 h0 with e|e
    .have:q=0:=by omega
     simp [this]
    .simp [e]
   rw [hzero q ad c' W h1]
   simp
  .rename_i h0
   have hn:n≠0:=λe=>h0 (by simp [e])
   obtain ⟨m,hm,hlen,hr⟩:=zba hs hA hc
   refine ⟨m,hm,hlen,λW hW q hq=>?_⟩
   rw [had hn]
   have hr':W.rangeAt L.b (L.s+o) m:=λj v hv=>(World.cell?_of_block (by rw [hW])).trans (hr j v hv)
   refine zas (zc6 hr') ?_
   rw [List.length_take,hlen]
   exact Nat.min_eq_left (Nat.mul_le_mul_right _ hq)
 cases hxy with
 |sliceNil =>
  simp only [zc3] at hc
  cases hc
  refine ⟨none,0,[],rfl,.nil ρ,by simp,λW _ q hq=>?_⟩
  have:q=0:=by omega
  subst this
  simp [Builtin.firstCells]
 |slice hA hc' hn had =>
  obtain ⟨m,h1,h2,h3⟩:=hcases hA (λh0=>had (by omega)) hc
  exact ⟨_,_,m,rfl,h1,h2,h3⟩
 |sliceG hA hc' hlo hn hk hm had =>
  obtain ⟨m,h1,h2,h3⟩:=hcases hA (λh0=>(had (by omega)).1) hc
  exact ⟨_,_,m,rfl,h1,h2,h3⟩

theorem zeR (hs:Sim ρ h w) {x y:Vly} {k m:Nat} {l:List Vly} (hxy:VR ρ x y) (hc:srcA x k h=some (m,l)) :
 ∃ n,VRs ρ l n/\n.length=m*k/\Builtin.lenOf y=pure m/\∀ W:World,W.heap=w.heap->∀ q,q<=m->(Builtin.firstCells k q y).run P W=.ok (n.take (q*k)).toArray W:=by
 cases x with
 |string b =>
  cases hxy
  simp only [srcA] at hc
  split at hc
  .rename_i hk
   subst hk
   cases hc
   refine ⟨_,VRs.plain ρ (by rw [List.all_eq_true];intro x hx;rw [List.mem_map] at hx;obtain ⟨u,_,rfl⟩:=hx;rfl),by simp,rfl,λW _ q hq=>?_⟩
   simp only [Builtin.firstCells,Sem.run_pure,Nat.mul_one]
   congr 1
   apply Array.ext'
   have hd:(b.extract 0 q).data=b.data.extract 0 q:=by
    exact ByteArray.data_extract
   rw [hd]
   simp
  .cases hc
 |slice a n c =>
  simp only [srcA,Option.map_eq_some_iff,Prod.mk.injEq] at hc
  obtain ⟨l',hc,rfl,rfl⟩:=hc
  obtain ⟨a',c',m,rfl,h1,h2,h3⟩:=zb4 (P:=P) hs hxy hc
  exact ⟨m,h1,h2,rfl,h3⟩
 |_=>simp [srcA] at hc

def zg8 (P:Program) (u:TypeId):Prop:=(∃ e',P.underlying u=some (.slice e'))\/P.underlying u=some .string

theorem za7 {t u ty e:TypeId} {i:TypeInfo} (ht:P.underlying t=some (.slice e)) (hu:zg8 P u) (hi:P.info? e=some i)
 {a:Addr} {n c m:Nat} {y:Vly} {news:List Vly} (hlen:Builtin.lenOf y=pure m) (hf:(Builtin.firstCells i.size m y).run P w=.ok news.toArray w) (hroom:n+m<=c) {w':World}
 (hst:(storeCells (a.add (n*i.size)) news 0).run P w=.ok () w') :
 (Builtin.append_ #[t,u] ty #[.slice (some a) n c,y]).run P w=.ok (.slice (some a) (n+m) c) w':=by
 rcases hu with ⟨e',hd⟩|hd
 .simp [Builtin.append_,run_underlying ht,run_underlying hd,sizeOf,typeInfo,hi,hlen,hroom,hf,hst]
 .simp [Builtin.append_,run_underlying ht,run_underlying hd,sizeOf,typeInfo,hi,hlen,hroom,hf,hst]

theorem zdN {t u ty e:TypeId} {i:TypeInfo} (ht:P.underlying t=some (.slice e)) (hu:zg8 P u) (hi:P.info? e=some i)
 {a:Option Addr} {n c:Nat} {y:Vly} (hlen:Builtin.lenOf y=pure 0) (hf:(Builtin.firstCells i.size 0 y).run P w=.ok #[] w) (hroom:n<=c) :
 (Builtin.append_ #[t,u] ty #[.slice a n c,y]).run P w=.ok (.slice a n c) w:=by
 rcases hu with ⟨e',hd⟩|hd <;> cases a <;> simp [Builtin.append_,run_underlying ht,run_underlying hd,sizeOf,typeInfo,hi,hlen,hroom,hf,storeCells]

theorem zdf {t u ty e:TypeId} {i:TypeInfo} {z:Vly} (ht:P.underlying t=some (.slice e)) (hu:zg8 P u) (hi:P.info? e=some i) (hz:i.zero=some z)
 {base:Option Addr} {n c m:Nat} {y:Vly} {olds news:List Vly} (hlen:Builtin.lenOf y=pure m) (hf:(Builtin.firstCells i.size m y).run P w.drew=.ok news.toArray w.drew)
 (ho:(Builtin.firstCells i.size n (.slice base n c)).run P w.drew=.ok olds.toArray w.drew)
 (hg:c < n+m) (h63:n+m<=1152921504606846976) (hfit:(n+m)*i.bytes<=140737488355328) :
 (Builtin.append_ #[t,u] ty #[.slice base n c,y]).run P w =
  .ok (.slice (some ⟨w.heap.size,0,none⟩) (n+m) (grownCap w (n+m) c e)) (w.drew.alloc (.cells ((olds++news)++(Builtin.zeroCells z.cells (grownCap w (n+m) c e - (n+m))).toList).toArray e)):=by
 have hn:¬ (n+m<=c):=by omega
 have h63':¬ (9223372036854775807 < ((n:Int)+(m:Int))):=by omega
 have hfits:=growslice_fits hg hfit
 have h48':¬ (281474976710656 < Builtin.nextslicecap (n+m) c*i.bytes):=by omega
 rcases hu with ⟨e',hd⟩|hd
 .simp [Builtin.append_,run_underlying ht,run_underlying hd,sizeOf,typeInfo,zeroValue,hi,hz,hlen,hn,h63',h48',Question.forced,hf,ho,Go.newRow,grownCap]
  congr 2
  apply Array.ext'
  simp
 .simp [Builtin.append_,run_underlying ht,run_underlying hd,sizeOf,typeInfo,zeroValue,hi,hz,hlen,hn,h63',h48',Question.forced,hf,ho,Go.newRow,grownCap]
  congr 2
  apply Array.ext'
  simp

theorem zeD (hs:Sim ρ h w) {A:Nat} {cs:List Vly} {e:TypeId} (hg:h.get A=some (.row cs e false)) :
 Fr ρ ρ h (h.set A .dead) w w/\Sim ρ (h.set A .dead) w:=by
 have hAs:A < h.size:=Heap.lt_of_get hg
 refine ⟨⟨λ_ _ h=>h,λA' L' h1 h2=>(by rw [h1] at h2;cases h2),rfl,rfl,rfl,Nat.le_refl _,Nat.le_refl _,Nat.min_le_left _ _,λ_ _ _=>rfl,?_⟩,⟨?_,?_⟩⟩
 .intro A' hA' hl
  rw [Heap.low_set] at hl
  rw [Heap.get_set _ _ _ _ hAs,if_neg (by omega)]
 .intro A' L' hA'
  rw [Heap.get_set _ _ _ _ hAs]
  by_cases e':A'=A
  .subst e'
   rw [if_pos rfl]
   exact hs.lt hA'
  .rw [if_neg e']
   exact hs.blk A' L' hA'
 .intro A1 A2 L1 L2 h1 h2 hne hb
  unfold live isRo
  rw [Heap.get_set _ _ _ _ hAs,Heap.get_set _ _ _ _ hAs]
  by_cases e1:A1=A
  .left;simp [e1]
  .by_cases e2:A2=A
   .right;left;simp [e2]
   .rw [if_neg e1,if_neg e2]
    exact hs.inj A1 A2 L1 L2 h1 h2 hne hb

theorem zgO {cur us:List Vly} {s n:Nat} {m:List Vly} (hc:cut cur s n=some m) (hl:s+n+us.length<=cur.length) :
 cut (splice cur (s+n) us) s (n+us.length)=some (m++us):=by
 obtain ⟨h1,h2,h3⟩:=zay hc
 refine zbv (by rw [zae hl];omega) (by simp [h2]) λi hi=>?_
 rw [getElem?_splice _ _ _ _ hl,List.getElem?_append,h2]
 by_cases hi':i < n
 .rw [if_pos hi',if_pos (by omega),h3 i hi']
 .rw [if_neg hi',if_neg (by omega),if_pos (by omega)]
  congr 1
  omega

theorem zgu (hs:Sim ρ h w) (hnone:ρ h.size=none) {A o:Nat} {L:Loc} {cs old news us m:List Vly} {e:TypeId} {cur:Array Vly} {fz:Nat × Nat} (hA:ρ A=some L) (hg:h.get A=some (.row cs e false))
 (hcur:w.heap[L.b]? = some (.cells cur e fz)) (hth:Thaw e cur.size fz) (htot:cur.size=L.tot) (hm:cut cur.toList (L.s+o) old.length=some m) (hv:VRs ρ old m) (hn:VRs ρ news us)
 (hfit:L.s+o+old.length+us.length<=L.tot) :
 ∃ ρ',ρ' h.size=some ⟨L.b,L.s+o,L.tot⟩/\Fr ρ ρ' h ((h.set A .dead).push (.row (old++news) e false)) w (w.setRow L.b (splice cur.toList (L.s+o+old.length) us).toArray) /\
   Sim ρ' ((h.set A .dead).push (.row (old++news) e false)) (w.setRow L.b (splice cur.toList (L.s+o+old.length) us).toArray):=by
 have hAs:A < h.size:=Heap.lt_of_get hg
 have hgrow:∀ A L',ρ A=some L'->(λA=>if A=h.size then some (⟨L.b,L.s+o,L.tot⟩:Loc) else ρ A) A=some L':=by
  intro A L' hA
  have hne:A≠h.size:=λe=>by rw [e,hnone] at hA;cases hA
  simp only [if_neg hne]
  exact hA
 have hcur':=setRow_heap w L.b cur (splice cur.toList (L.s+o+old.length) us).toArray e _ hcur
 have hother:∀ b,b≠L.b->(w.setRow L.b (splice cur.toList (L.s+o+old.length) us).toArray).heap[b]? = w.heap[b]? := λb hb=>setRow_other w L.b b _ hb
 have hsz:(w.setRow L.b (splice cur.toList (L.s+o+old.length) us).toArray).heap.size=w.heap.size:=by simp [World.setRow]
 have hget:∀ j,((h.set A .dead).push (.row (old++news) e false)).get j=if j=h.size then some (.row (old++news) e false) else if j=A then some .dead else h.get j:=by
  intro j
  rw [Heap.get_push,Heap.size_set,Heap.get_set _ _ _ _ hAs]
 have hne:∀ A' L',ρ A'=some L'->A'≠A->live h A'->L'.b≠L.b:=by
  intro A' L' hA' e' hlive heq
  rcases hs.inj A' A L' L hA' hA e' heq with h1|h1|h1
  .exact h1 hlive
  .exact h1 ⟨_,hg,by simp⟩
  .obtain ⟨_,cs2,e2,hg2⟩:=h1
   rw [hg] at hg2
   cases hg2
 refine ⟨λA=>if A=h.size then some ⟨L.b,L.s+o,L.tot⟩ else ρ A,by simp,⟨hgrow,?_,rfl,rfl,rfl,by rw [hsz];exact Nat.le_refl _,?_,Nat.min_le_left _ _,?_,?_⟩,⟨?_,?_⟩⟩
 .intro A' L' hA' hn'
  split at hA'
  .rename_i e1
   cases hA'
   refine ⟨by omega,by rw [Heap.size_push,Heap.size_set];omega,.inr ⟨A,L,hA,rfl,?_,by rw [Heap.size_push,Heap.size_set];omega⟩⟩
   rw [Heap.low_push,Heap.low_set]
   omega
  .rw [hn'] at hA';cases hA'
 .rw [Heap.size_push,Heap.size_set];omega
 .intro b hb hall
  refine hother b λe'=>?_
  subst e'
  have:=hall A L hA rfl
  rw [Heap.low_push,Heap.low_set,Heap.size_push,Heap.size_set] at this
  omega
 .intro A' hA' hl
  rw [Heap.low_push,Heap.low_set] at hl
  rw [hget,if_neg (by omega),if_neg (by omega)]
 .intro A' L' hA'
  rw [hget]
  split at hA'
  .rename_i e1
   cases hA'
   rw [if_pos e1]
   refine ⟨_,fz,hcur',?_,?_,m++us,?_,(hv.append hn).mono hgrow⟩
   .rw [List.size_toArray,zae (by simp;omega)]
    simpa using hth
   .show (splice cur.toList (L.s+o+old.length) us).toArray.size=L.tot
    rw [List.size_toArray,zae (by simp;omega)]
    simpa using htot
   .show cut (splice cur.toList (L.s+o+old.length) us) (L.s+o) (old++news).length=some (m++us)
    rw [List.length_append,hn.1]
    exact zgO hm (by simp;omega)
  .rename_i e1
   rw [if_neg e1]
   by_cases e2:A'=A
   .rw [if_pos e2]
    show L'.b < _
    rw [hsz]
    exact hs.lt hA'
   .rw [if_neg e2]
    exact (hs.blk A' L' hA').keep hgrow (by rw [hsz];exact Nat.le_refl _) λhl=>hother L'.b (hne A' L' hA' e2 hl)
 .intro A1 A2 L1 L2 h1 h2 hne12 hb
  unfold live isRo
  rw [hget,hget]
  have hone:∀ A' L',A'≠h.size->ρ A'=some L'->L.b=L'.b->¬ ∃ b,(if A'=A then some Blk.dead else h.get A')=some b/\b≠.dead:=by
   intro A' L' hh hA' hbb
   by_cases e2:A'=A
   .simp [e2]
   .rw [if_neg e2]
    exact λhlive=>hne A' L' hA' e2 hlive hbb.symm
  split at h1
  .rename_i e1
   split at h2
   .omega
   .rename_i e2
    cases h1
    right;left
    rw [if_neg e2]
    exact hone A2 L2 e2 h2 hb
  .rename_i e1
   split at h2
   .rename_i e2
    cases h2
    left
    rw [if_neg e1]
    exact hone A1 L1 e1 h1 hb.symm
   .rename_i e2
    rw [if_neg e1,if_neg e2]
    by_cases f1:A1=A
    .left;simp [f1]
    .by_cases f2:A2=A
     .right;left;simp [f2]
     .rw [if_neg f1,if_neg f2]
      exact hs.inj A1 A2 L1 L2 h1 h2 hne12 hb

theorem zfc {k q:Nat} (hk:0 < k) (hG:q < G):G<=G*k+q/\(G*k+q) % G=q/\(G*k+q) / G=k:=by
 refine ⟨?_,?_,?_⟩
 .calc G=G*1:=(Nat.mul_one _).symm
   _<=G*k:=Nat.mul_le_mul_left _ hk
   _<=G*k+q:=Nat.le_add_right _ _
 .rw [Nat.mul_add_mod,Nat.mod_eq_of_lt hG]
 .rw [Nat.mul_add_div (by unfold G;omega),Nat.div_eq_of_lt hG,Nat.add_zero]

theorem zcB (hT:T.Fits P) (hs:Sim ρ h w) (hfree:Free ρ h h') {t u ty:TypeId} {s s' x x' v:Vly} (hu:zg8 P u) (hss:VR ρ s s') (hx:VR ρ x x') (ha:zbJ T t s x h=some (v,h')) :
 ∃ ρ' vc w',(Builtin.append_ #[t,u] ty #[s',x']).run P w=.ok vc w'/\Fr ρ ρ' h h' w w'/\Sim ρ' h' w'/\VR ρ' v vc:=by
 unfold zbJ at ha
 split at ha
 .rename_i e hd
  have ht:=hT.desc _ _ hd
  simp only [Option.bind_eq_some_iff,Prod.exists] at ha
  obtain ⟨k,bytes,z,hinf,m,news,hsrc,ha⟩:=ha
  obtain ⟨i,zv,hi,rfl,rfl,hz,rfl,hzl,hzp⟩:=hT.info e k bytes z hinf
  obtain ⟨us,hus,husl,hlen,hrun⟩:=zeR (P:=P) hs hx hsrc
  have hfull:us.take (m*i.size)=us:=List.take_of_length_le (by omega)
  have hf:∀ W:World,W.heap=w.heap->(Builtin.firstCells i.size m x').run P W=.ok us.toArray W:=λW hW=>by
   have:=hrun W hW m (Nat.le_refl _)
   rwa [hfull] at this
  split at ha
  .rename_i base n c
   split at ha
   .rename_i hm
    subst hm
    cases ha
    have h0:=hrun w rfl 0 (Nat.le_refl _)
    simp only [Nat.zero_mul,List.take_zero] at h0
    have key:∃ a' c',s'=.slice a' n c'/\n<=c':=by
     cases hss with
     |sliceNil=>exact ⟨_,_,rfl,Nat.le_refl _⟩
     |slice hA hc hn had=>exact ⟨_,_,rfl,hn⟩
     |sliceG hA hc hlo hn hk hm had=>exact ⟨_,_,rfl,by omega⟩
    obtain ⟨a',c',rfl,hn⟩:=key
    exact ⟨ρ,_,w,zdN ht hu hi hlen h0 hn,Fr.refl _ _ _,hs,hss⟩
   .rename_i hm
    split at ha
    .cases ha
    .rename_i hbad
     simp only [Bool.or_eq_true,decide_eq_true_eq,Bool.not_eq_true',not_or,Bool.not_eq_false] at hbad
     obtain ⟨⟨⟨hk0,hby⟩,h60⟩,hone⟩:=hbad
     have hkp:0 < i.size:=by omega
     split at ha
     .rename_i hroom
      split at ha
      .rename_i A o
       split at ha
       .rename_i hck
        simp only [Option.map_eq_some_iff,Prod.mk.injEq] at ha
        obtain ⟨h1,hwr,rfl,rfl⟩:=ha
        cases hss with
        |slice hA hc hn had =>
         rename_i L ad
         obtain rfl:=had (by have:=Nat.mod_eq_of_lt hc;omega)
         obtain ⟨w',hst,hfr,hsim⟩:=za4 (P:=P) hs hA hus hwr
         have hcc:c % G=c:=Nat.mod_eq_of_lt hc
         rw [<- Nat.add_assoc] at hst
         exact ⟨ρ,_,w',za7 ht hu hi hlen (hf w rfl) (by omega) (by rw [Addr.add_mid];exact hst),hfr,hsim,.slice hA hc (by omega) (λ_=>rfl)⟩
        |sliceG hA hc hlo hn hk hmx had =>
         rename_i c' L ad
         obtain ⟨w',hst,hfr,hsim⟩:=za4 (P:=P) hs hA hus hwr
         have hc0:c'≠0:=by omega
         obtain ⟨rfl,hfit⟩:=had hc0
         rw [<- Nat.add_assoc] at hst
         exact ⟨ρ,_,w',za7 ht hu hi hlen (hf w rfl) (by omega) (by rw [Addr.add_mid];exact hst),hfr,hsim,.sliceG hA hc hlo (by omega) hk hmx (λ_=>⟨rfl,hfit⟩)⟩
       .cases ha
      .cases ha
     .rename_i hroom
      simp only [Option.bind_eq_some_iff] at ha
      obtain ⟨old,hold,ha⟩:=ha
      obtain ⟨a',c',mo,rfl,hvo,hmol,hfo⟩:=zb4 (P:=P) hs hss hold
      have hfullo:mo.take (n*i.size)=mo:=List.take_of_length_le (by omega)
      have hfo':∀ W:World,W.heap=w.heap->(Builtin.firstCells i.size n (.slice a' n c')).run P W=.ok mo.toArray W:=λW hW=>by
       have:=hfo W hW n (Nat.le_refl _)
       rwa [hfullo] at this
      have hoc:=zfc (q:=n+m) hkp (by unfold G;omega)
      have grown:∀ (h2:Heap),Sim ρ h2 w->ρ h2.size=none->c' < n+m->∃ ρ' vc w',(Builtin.append_ #[t,u] ty #[.slice a' n c',x']).run P w=.ok vc w'/\Fr ρ ρ' h2 (h2.push (.row (old++news) e false)) w w'/\Sim ρ' (h2.push (.row (old++news) e false)) w' /\
       VR ρ' (.slice (some ⟨h2.size,0,none⟩) (n+m) (G*i.size+(n+m))) vc:=by
       intro h2 hs2 hn2 hlt
       have hr:=zdf (w:=w) (ty:=ty) ht hu hi hz hlen (hf w.drew rfl) (hfo' w.drew rfl) hlt (by omega) (by omega)
       have hge:=grownCap_ge w (n+m) c' e
       have hle:=grownCap_le_maxLen w (n+m) c' e (by unfold maxLen;omega)
       have hzs:zv.cells.size=i.size:=by rw [<- Array.length_toList,hzl]
       have hlenc:((mo++us)++(Builtin.zeroCells zv.cells (grownCap w (n+m) c' e - (n+m))).toList).length=grownCap w (n+m) c' e*i.size:=by
        simp only [List.length_append,hmol,husl,Array.length_toList,size_zeroCells,hzs,<- Nat.add_mul]
        congr 1
        omega
       have hlon:(old++news).length=(mo++us).length:=by simp [hvo.1,hus.1]
       obtain ⟨ρ',hρ,hfr,hsim⟩:=zbk (W:=w.drew.alloc (.cells ((mo++us)++(Builtin.zeroCells zv.cells (grownCap w (n+m) c' e - (n+m))).toList).toArray e)) (cs:=old++news) (m:=mo++us) hs2 hn2 rfl rfl rfl rfl
        (by rw [hlon]
            refine zbv (by simp) rfl λj hj=>?_
            rw [Nat.zero_add]
            exact (List.getElem?_append_left (l₂:=(Builtin.zeroCells zv.cells (grownCap w (n+m) c' e - (n+m))).toList) hj).symm)
        (hvo.append hus)
       refine ⟨ρ',_,_,hr,hfr,hsim,?_⟩
       refine .sliceG hρ hoc.1 (by rw [hoc.2.1];exact hge) (by rw [hoc.2.1];exact Nat.le_refl _) (by rw [hoc.2.2];exact hkp) hle (λ_=>⟨by simp,?_⟩)
       rw [hoc.2.2]
       simp only [List.size_toArray,hlenc]
       omega
      split at ha
      .rename_i hc
       cases ha
       have hcc:c % G=c:=Nat.mod_eq_of_lt hc
       have hcc':c'=c:=by
        cases hss with
        |sliceNil=>rfl
        |slice hA hc hn had=>rfl
        |sliceG hA hc' hlo hn hk hm had=>omega
       exact grown h hs (hfree _ (Nat.le_refl _) (by rw [Heap.size_push];omega)) (by omega)
      .rename_i hc
       split at ha
       .rename_i A o
        split at ha
        .rename_i cs e' hg
         split at ha
         .rename_i hee
          simp only [Bool.and_eq_true,decide_eq_true_eq] at hee
          obtain ⟨rfl,hck⟩:=hee
          cases ha
          cases hss with
          |slice hA hc' hn had=>omega
          |sliceG hA hc' hlo hn hk hmx had =>
           rename_i L ad
           by_cases hin:n+m<=c'
           .have hc0:c'≠0:=by omega
            obtain ⟨rfl,hfit⟩:=had hc0
            have hb:=hs.blk A L hA
            rw [hg] at hb
            obtain ⟨cur,fz,hcur,hth,htot,m0,hm0,hv0⟩:=hb
            obtain ⟨k1,k2,k3⟩:=zay hm0
            rw [hck] at hfit
            have hmul:(n+m)*i.size<=c'*i.size:=Nat.mul_le_mul_right _ hin
            rw [Nat.add_mul] at hmul
            have holdl:old.length=n*i.size:=by rw [hvo.1];exact hmol
            have hcold:∃ mm,cut cur.toList (L.s+o) old.length=some mm/\VRs ρ old mm:=by
             simp only [zc3] at hold
             split at hold
             .cases hold
              exact ⟨[],zbv (by simp;omega) rfl (by intro i hi;simp at hi),.nil ρ⟩
             .simp only [zav,hg] at hold
              obtain ⟨d,hd2,hvd⟩:=hv0.cut hold
              obtain ⟨d1,d2,d3⟩:=zay hd2
              refine ⟨d,zbv (by simp at k1 ⊢;omega) (by rw [holdl];exact d2) (λj hj=>?_),hvd⟩
              rw [d3 j (by omega),k3 (o+j) (by omega),Nat.add_assoc]
            obtain ⟨mm,hmm,hvm⟩:=hcold
            obtain ⟨ρ',hρ,hfr,hsim⟩:=zgu hs (hfree _ (Nat.le_refl _) (by rw [Heap.size_push,Heap.size_set];omega)) hA hg hcur hth htot hmm hvm hus (by omega)
            have hst:=zaw P L.b (L.s+o+old.length) e' fz us 0 cur w hcur hth (by simp;omega) (hus.one hone)
            simp only [Nat.add_zero] at hst
            refine ⟨ρ',_,_,za7 ht hu hi hlen (hf w rfl) hin (by rw [Addr.add_mid,<- holdl];exact hst),hfr,hsim,?_⟩
            refine .sliceG hρ hoc.1 (by rw [hoc.2.1];exact hin) (by rw [hoc.2.1];exact Nat.le_refl _) (by rw [hoc.2.2];exact hkp) hmx (λ_=>⟨rfl,?_⟩)
            rw [hoc.2.2]
            exact hfit
           .obtain ⟨fr1,sim1⟩:=zeD hs hg
            obtain ⟨ρ',vc,w',hr,fr2,sim2,hv2⟩:=grown _ sim1 (hfree _ (Nat.le_refl _) (by rw [Heap.size_push,Heap.size_set];omega)) (by omega)
            exact ⟨ρ',vc,w',hr,fr1.trans fr2,sim2,hv2⟩
         .cases ha
        .cases ha
       .cases ha
  .cases ha
 .cases ha

end
end Go.Am
namespace Go.Am
open Go.RowKit

theorem zaS {α:Type} (P:Program):∀ (c:Sem α) (a:α),zan P c=some a->∀ w,c.run P w=.ok a w
 | .pure b,a,h,w=>by simp only [zan] at h;cases h;rfl
 | .program k,a,h,w=>by simp only [zan] at h;exact zaS P (k P) a h w
 | .mark m k,a,h,w=>by simp only [zan] at h;exact zaS P k a h w
 | .load ..,_,h,_=>by simp [zan] at h
 | .store ..,_,h,_=>by simp [zan] at h
 | .new ..,_,h,_=>by simp [zan] at h
 | .shape ..,_,h,_=>by simp [zan] at h
 | .freeze ..,_,h,_=>by simp [zan] at h
 | .frozen ..,_,h,_=>by simp [zan] at h
 | .getObj ..,_,h,_=>by simp [zan] at h
 | .setObj ..,_,h,_=>by simp [zan] at h
 | .choose ..,_,h,_=>by simp [zan] at h
 | .sys ..,_,h,_=>by simp [zan] at h
 | .halt ..,_,h,_=>by simp [zan] at h

section
variable {P:Program} {T:Tab} {ρ:Rho} {h h':Heap} {w:World}

theorem zgs (hT:T.Fits P) {t:TypeId} {n:Nat} (hn:zb2 T t=some n):∃ i,P.info? t=some i/\i.size=n:=by
 simp only [zb2,Option.map_eq_some_iff,Prod.exists] at hn
 obtain ⟨a,b,c,hi,rfl⟩:=hn
 obtain ⟨i,zv,h1,h2,_⟩:=hT.info t a b c hi
 exact ⟨i,h1,h2⟩

theorem zam (hT:T.Fits P) {t:TypeId} {n:Nat} (hn:zb2 T t=some n) (w:World):(sizeOf t).run P w=.ok n w:=by
 obtain ⟨i,hi,rfl⟩:=zgs hT hn
 simp [sizeOf,typeInfo,hi]

theorem zf5 (hT:T.Fits P) (hs:Sim ρ h w) {t u ty:TypeId} {d d' s s' v:Vly} (hd:VR ρ d d') (hss:VR ρ s s') (hc:zgN T t d s h=some (v,h')) :
 ∃ vc w',(Builtin.copy_ #[t,u] ty #[d',s']).run P w=.ok vc w'/\Fr ρ ρ h h' w w'/\Sim ρ h' w'/\VR ρ v vc:=by
 unfold zgN at hc
 split at hc
 .rename_i e a n c hde
  have ht:=hT.desc _ _ hde
  simp only [Option.bind_eq_some_iff,Prod.exists] at hc
  obtain ⟨k,hk,m,src,hsrc,hc⟩:=hc
  obtain ⟨us,hus,husl,hlen,hrun⟩:=zeR (P:=P) hs hss hsrc
  have hsz:=zam hT hk w
  have hf:=hrun w rfl (min m n) (Nat.min_le_left _ _)
  split at hc
  .rename_i h0
   cases hc
   rw [h0] at hf
   simp only [Nat.zero_mul,List.take_zero] at hf
   have hmin:Nat.min m n=0:=h0
   have key:∃ a' c',d'=.slice a' n c':=by cases hd <;> exact ⟨_,_,rfl⟩
   obtain ⟨a',c',rfl⟩:=key
   refine ⟨.int .i64 0,w,?_,Fr.refl _ _ _,hs,.int _ _⟩
   cases a' <;> simp [Builtin.copy_,run_underlying ht,hlen,hmin,hsz,hf,storeCells,goInt]
  .rename_i h0
   have hmin:Nat.min m n=min m n:=rfl
   split at hc
   .rename_i A o
    simp only [Option.map_eq_some_iff,Prod.mk.injEq] at hc
    obtain ⟨h1,hwr,rfl,rfl⟩:=hc
    have key:∃ L c',ρ A=some L/\d'=.slice (some ⟨L.b,L.s+o,none⟩) n c':=by
     cases hd with
     |slice hA hc hn had =>
      obtain rfl:=had (by omega)
      exact ⟨_,_,hA,rfl⟩
     |sliceG hA hc hlo hn hk hm had =>
      obtain ⟨rfl,_⟩:=had (by omega)
      exact ⟨_,_,hA,rfl⟩
    obtain ⟨L,c',hA,rfl⟩:=key
    obtain ⟨w',hst,hfr,hsim⟩:=za4 (P:=P) hs hA (hus.take _) hwr
    refine ⟨.int .i64 (min m n:Nat),w',?_,hfr,hsim,.int _ _⟩
    simp [Builtin.copy_,run_underlying ht,hlen,hmin,hsz,hf,hst,goInt]
   .cases hc
 .cases hc

theorem zfn (hT:T.Fits P) (hs:Sim ρ h w) {t ty:TypeId} {x x':Vly} (hx:VR ρ x x') (hc:zeC T t x h=some h') :
 ∃ w',(Builtin.clear_ #[t] ty #[x']).run P w=.ok undef w'/\Fr ρ ρ h h' w w'/\Sim ρ h' w':=by
 unfold zeC at hc
 split at hc
 .rename_i e a n c hde
  have ht:=hT.desc _ _ hde
  split at hc
  .rename_i h0
   subst h0
   cases hc
   have key:∃ a' c',x'=.slice a' 0 c':=by cases hx <;> exact ⟨_,_,rfl⟩
   obtain ⟨a',c',rfl⟩:=key
   refine ⟨w,?_,Fr.refl _ _ _,hs⟩
   cases a' <;> simp [Builtin.clear_,run_underlying ht,undef]
  .rename_i h0
   simp only [Option.bind_eq_some_iff,Prod.exists] at hc
   obtain ⟨k,by',z,hinf,hc⟩:=hc
   obtain ⟨i,zv,hi,rfl,rfl,hz,rfl,hzl,hzp⟩:=hT.info e k by' z hinf
   split at hc
   .rename_i A o
    have key:∃ L c',ρ A=some L/\x'=.slice (some ⟨L.b,L.s+o,none⟩) n c':=by
     cases hx with
     |slice hA hc hn had =>
      obtain rfl:=had (by omega)
      exact ⟨_,_,hA,rfl⟩
     |sliceG hA hc hlo hn hk hm had =>
      obtain ⟨rfl,_⟩:=had (by omega)
      exact ⟨_,_,hA,rfl⟩
    obtain ⟨L,c',hA,rfl⟩:=key
    obtain ⟨w',hst,hfr,hsim⟩:=za4 (P:=P) hs hA (VRs.plain ρ (zcc hzp n)) hc
    refine ⟨w',?_,hfr,hsim⟩
    have hzc:(Builtin.zeroCells zv.cells n).toList=za9 zv.cells.toList n:=zbu zv.cells n
    obtain ⟨n',rfl⟩:∃ n',n=n'+1:=⟨n - 1,by omega⟩
    simp [Builtin.clear_,run_underlying ht,zeroValue,typeInfo,hi,hz,hzc,hst,undef]
   .cases hc
 .cases hc

theorem zde (hT:T.Fits P) (hs:Sim ρ h w) (hfree:Free ρ h h') {t:TypeId} {l l' c c' v:Vly} (hl:VR ρ l l') (hc:VR ρ c c') (hm:zbj T t l c h=some (v,h')) :
 ∃ ρ' vc w',(Instr.makeSlice t l' c').run P w=.ok vc w'/\Fr ρ ρ' h h' w w'/\Sim ρ' h' w'/\VR ρ' v vc:=by
 unfold zbj at hm
 split at hm
 .rename_i e k1 l k2 c hde
  cases hl
  cases hc
  have ht:=hT.desc _ _ hde
  simp only [Option.bind_eq_some_iff,Prod.exists] at hm
  obtain ⟨k,by',z,hinf,hm⟩:=hm
  obtain ⟨i,zv,hi,rfl,rfl,hz,rfl,hzl,hzp⟩:=hT.info e k by' z hinf
  split at hm
  .rename_i hh
   obtain ⟨h0,hlc,h60,hby⟩:=hh
   cases hm
   have hr:=run_make (P:=P) w t e i zv ht hi hz k1 k2 l c h0 hlc (by rw [Int.mul_comm];omega) (by omega)
   have hzs:zv.cells.size=i.size:=by rw [<- Array.length_toList,hzl]
   have hmade:(madeCells zv.cells (c.toNat*i.size)).toList=za9 zv.cells.toList c.toNat:=by
    rw [<- hzs]
    exact zbu zv.cells c.toNat
   obtain ⟨ρ',hρ,hfr,hsim⟩:=zbk (W:=w.alloc (.cells (madeCells zv.cells (c.toNat*i.size)) e)) (cs:=za9 zv.cells.toList c.toNat) (m:=za9 zv.cells.toList c.toNat) hs (hfree _ (Nat.le_refl _) (by rw [Heap.size_push];omega)) rfl rfl rfl rfl
    (by rw [hmade];exact zbv (by omega) rfl (λj _=>by rw [Nat.zero_add])) (VRs.plain ρ (zcc hzp _))
   refine ⟨ρ',_,_,hr,hfr,hsim,?_⟩
   have:=VR.slice (ρ:=ρ') (o:=0) (n:=l.toNat) (c:=c.toNat) hρ (by unfold G;omega) (by omega) (λ_=>rfl)
   simpa using this
  .cases hm
 .cases hm

theorem zeH (off:Nat):∀ (l:List Vly) (k:Nat) (cs:Array Vly),off+k+l.length<=cs.size ->
 ((l.zipIdx k).foldl (λcs (x:Vly × Nat)=>cs.setIfInBounds (off+x.2) x.1) cs).toList=splice cs.toList (off+k) l
 | [],k,cs,_=>by simp [splice]
 |v::l,k,cs,hl=>by
  simp only [List.zipIdx_cons,List.foldl_cons]
  have hl':off+k+(l.length+1)<=cs.size:=by simpa using hl
  rw [zeH off l (k+1) _ (by simp;omega)]
  apply List.ext_getElem?
  intro i
  rw [getElem?_splice _ _ _ _ (by simp;omega),getElem?_splice _ _ _ _ (by simp;omega)]
  simp only [Array.toList_setIfInBounds,List.getElem?_set,List.length_cons,Array.length_toList]
  by_cases h1:i < off+k
  .rw [if_pos h1,if_pos (by omega),if_neg (by omega)]
  .rw [if_neg h1]
   by_cases h2:i=off+k
   .subst h2
    rw [if_pos (by omega),if_pos rfl,if_pos (by omega),if_pos (by omega)]
    simp
   .rw [if_neg (by omega)]
    by_cases h3:i < off+k+(l.length+1)
    .rw [if_pos (by omega),if_pos h3]
     obtain ⟨j,rfl⟩:∃ j,i=off+k+1+j:=⟨i - (off+k+1),by omega⟩
     rw [show off+k+1+j - (off+(k+1))=j by omega,show off+k+1+j - (off+k)=j+1 by omega]
     simp
    .rw [if_neg (by omega),if_neg h3,if_neg (by omega)]

theorem zbp {place place':Nat->Option (Nat × Nat)} (hp:∀ i r,place i=some r->place' i=some r):∀ (parts parts':List (Nat × Vly)) (cs cs':List Vly) (ds:Array Vly),
 parts.length=parts'.length->(∀ (i:Nat) (x y:Nat × Vly),parts[i]? = some x->parts'[i]? = some y->x.1=y.1/\VR ρ x.2 y.2)->VRs ρ cs ds.toList->zgj place cs parts=some cs' ->
 ∃ ds',Instr.fill place' ds parts'=some ds'/\VRs ρ cs' ds'.toList
 | [],[],cs,cs',ds,_,_,hv,hf=>by
  simp only [zgj] at hf
  cases hf
  exact ⟨ds,rfl,hv⟩
 |(i,v)::parts,(j,u)::parts',cs,cs',ds,hlen,hall,hv,hf=>by
  obtain ⟨hij,hvu⟩:=hall 0 _ _ rfl rfl
  simp only at hij hvu
  subst hij
  simp only [zgj,Option.bind_eq_some_iff,Prod.exists] at hf
  obtain ⟨o,n,hpl,hf⟩:=hf
  split at hf
  .rename_i hc
   have hcl:u.cells.size=v.cells.size:=by have:=hvu.cells.1;simpa using this.symm
   have hdl:ds.size=cs.length:=by have:=hv.1;simpa using this.symm
   have hfold:=zeH o u.cells.toList 0 ds (by simp;omega)
   have hfe:(u.cells.zipIdx.foldl (λcs (x:Vly × Nat)=>cs.setIfInBounds (o+x.2) x.1) ds).toList=splice ds.toList o u.cells.toList:=by
    rw [<- Array.foldl_toList,Array.toList_zipIdx]
    simpa using hfold
   have hv':VRs ρ (splice cs o v.cells.toList) (u.cells.zipIdx.foldl (λcs (x:Vly × Nat)=>cs.setIfInBounds (o+x.2) x.1) ds).toList:=by
    rw [hfe]
    exact hv.splice o hvu.cells
   obtain ⟨ds',hd1,hd2⟩:=zbp hp parts parts' _ cs' _ (by simpa using hlen) (λi x y hx hy=>hall (i+1) x y (by simpa using hx) (by simpa using hy)) hv' hf
   refine ⟨ds',?_,hd2⟩
   simp only [Instr.fill,hp i _ hpl]
   rw [if_neg (by simp;omega)]
   exact hd1
  .cases hf
 | [],_::_,_,_,_,hlen,_,_,_=>by simp at hlen
 |_::_,[],_,_,_,hlen,_,_,_=>by simp at hlen

theorem zcL (hT:T.Fits P):∀ (fs:List Field) (ps:List (Nat × Nat)) (w:World),zdG T fs=some ps->(fs.mapM λf=>do pure (f.offset,<- sizeOf f.type):Sem (List (Nat × Nat))).run P w=.ok ps w
 | [],ps,w,hp=>by simp only [zdG] at hp;cases hp;simp
 |f::fs,ps,w,hp=>by
  simp only [zdG,Option.bind_eq_some_iff,Option.map_eq_some_iff] at hp
  obtain ⟨n,hn,r,hr,rfl⟩:=hp
  rw [List.mapM_cons]
  simp only [Sem.run_bind,zam hT hn,Result.andThen_ok,Sem.run_pure]
  have ih:=zcL hT fs r w hr
  rw [ih]
  rfl

theorem zfl (hT:T.Fits P) {t:TypeId} {parts parts':List (Nat × Vly)} {v:Vly} (hlen:parts.length=parts'.length)
 (hall:∀ (i:Nat) (x y:Nat × Vly),parts[i]? = some x->parts'[i]? = some y->x.1=y.1/\VR ρ x.2 y.2) (hb:zfk T t parts=some v) (w:World) :
 ∃ vc,(Instr.build t parts'.toArray).run P w=.ok vc w/\VR ρ v vc:=by
 simp only [zfk,Option.bind_eq_some_iff,Prod.exists] at hb
 obtain ⟨k,by',z,hinf,hb⟩:=hb
 obtain ⟨i,zv,hi,rfl,rfl,hz,rfl,hzl,hzp⟩:=hT.info t k by' z hinf
 split at hb
 .rename_i fs hd
  have ht:=hT.desc _ _ hd
  simp only [Option.bind_eq_some_iff,Option.map_eq_some_iff] at hb
  obtain ⟨ps,hps,cs,hf,rfl⟩:=hb
  obtain ⟨ds,hd1,hd2⟩:=zbp (ρ:=ρ) (place':=(ps.toArray[·]?)) (λi r hr=>by simpa using hr) parts parts' _ cs zv.cells hlen hall (VRs.plain ρ hzp) hf
  refine ⟨.agg ds,?_,?_⟩
  .have hm:=zcL hT fs.toList ps w hps
   have hm':(fs.mapM λf=>do pure (f.offset,<- sizeOf f.type):Sem (Array (Nat × Nat))).run P w=.ok ps.toArray w:=by
    rw [Array.mapM_eq_mapM_toList]
    simp only [Sem.run_map,hm,Result.andThen_ok]
   simp only [Instr.build,zeroValue,typeInfo,Sem.run_bind,run_program,Result.andThen_ok,hi,Sem.run_pure,hz,run_underlying ht,hm',hd1]
  .have:=hd2.toArray
   simpa using this
 .rename_i n e hd
  have ht:=hT.desc _ _ hd
  simp only [Option.bind_eq_some_iff,Option.map_eq_some_iff] at hb
  obtain ⟨k,hk,cs,hf,rfl⟩:=hb
  obtain ⟨ds,hd1,hd2⟩:=zbp (ρ:=ρ) (place':=λi=>some (i*k,k)) (λi r hr=>hr) parts parts' _ cs zv.cells hlen hall (VRs.plain ρ hzp) hf
  refine ⟨.agg ds,?_,?_⟩
  .simp only [Instr.build,zeroValue,typeInfo,Sem.run_bind,run_program,Result.andThen_ok,hi,Sem.run_pure,hz,run_underlying ht,zam hT hk,hd1]
  .have:=hd2.toArray
   simpa using this
 .cases hb

theorem zcQ (hT:T.Fits P) (hs:Sim ρ h w) (hfree:Free ρ h h') {t:TypeId} {len:Nat} {parts parts':List (Nat × Vly)} {v:Vly} (hlen:parts.length=parts'.length)
 (hall:∀ (i:Nat) (x y:Nat × Vly),parts[i]? = some x->parts'[i]? = some y->x.1=y.1/\VR ρ x.2 y.2) (hb:zau T t len parts h=some (v,h')) :
 ∃ ρ' vc w',(Instr.buildSlice t len parts'.toArray).run P w=.ok vc w'/\Fr ρ ρ' h h' w w'/\Sim ρ' h' w'/\VR ρ' v vc:=by
 unfold zau at hb
 split at hb
 .rename_i e hd
  have ht:=hT.desc _ _ hd
  simp only [Option.bind_eq_some_iff,Prod.exists] at hb
  obtain ⟨k,by',z,hinf,hb⟩:=hb
  obtain ⟨i,zv,hi,rfl,rfl,hz,rfl,hzl,hzp⟩:=hT.info e k by' z hinf
  split at hb
  .cases hb
  .rename_i hsm
   simp only [Bool.or_eq_true,decide_eq_true_eq,not_or] at hsm
   obtain ⟨hsm,hG24⟩:=hsm
   have hG:len < G:=by unfold G;omega
   simp only [Option.map_eq_some_iff,Prod.mk.injEq] at hb
   obtain ⟨cs,hf,rfl,rfl⟩:=hb
   have hzs:zv.cells.size=i.size:=by rw [<- Array.length_toList,hzl]
   by_cases h0:len*i.size=0
   .have hz0:za9 zv.cells.toList len=[]:=by
     apply List.eq_nil_of_length_eq_zero
     rw [ze7,hzl]
     exact h0
    rw [hz0] at hf
    obtain ⟨ds,hd1,hd2⟩:=zbp (ρ:=ρ) (place':=λj=>some (j*i.size,i.size)) (λi r hr=>hr) parts parts' _ cs #[] hlen hall (.nil ρ) hf
    obtain ⟨ρ',hρ,hfr,hsim⟩:=zbk (W:=w.alloc (.cells ds e)) (cs:=cs) (m:=ds.toList) hs (hfree _ (Nat.le_refl _) (by rw [Heap.size_push];omega)) rfl rfl rfl rfl (by rw [hd2.1];exact zbv (by omega) rfl (λj _=>by rw [Nat.zero_add])) hd2
    refine ⟨ρ',.slice (some ⟨w.heap.size,0,none⟩) len len,w.alloc (.cells ds e),?_,hfr,hsim,?_⟩
    .have hsm':¬ (16777216 < len*i.size):=by omega
     simp [Instr.buildSlice,run_underlying ht,sizeOf,typeInfo,hi,h0,Array.range_zero',hd1,Go.newRow]
    .have:=VR.slice (ρ:=ρ') (o:=0) (n:=len) (c:=len) hρ hG (Nat.le_refl _) (λ_=>rfl)
     simpa using this
   .have hmade:((Array.range (len*i.size)).map (zv.cells[· % zv.cells.size]!)).toList=za9 zv.cells.toList len:=by
     have:=zbu zv.cells len
     simp only [hzs] at this ⊢
     exact this
    obtain ⟨ds,hd1,hd2⟩:=zbp (ρ:=ρ) (place':=λj=>some (j*i.size,i.size)) (λi r hr=>hr) parts parts' _ cs ((Array.range (len*i.size)).map (zv.cells[· % zv.cells.size]!)) hlen hall
     (by rw [hmade];exact VRs.plain ρ (zcc hzp _)) hf
    obtain ⟨ρ',hρ,hfr,hsim⟩:=zbk (W:=w.alloc (.cells ds e)) (cs:=cs) (m:=ds.toList) hs (hfree _ (Nat.le_refl _) (by rw [Heap.size_push];omega)) rfl rfl rfl rfl (by rw [hd2.1];exact zbv (by omega) rfl (λj _=>by rw [Nat.zero_add])) hd2
    refine ⟨ρ',.slice (some ⟨w.heap.size,0,none⟩) len len,w.alloc (.cells ds e),?_,hfr,hsim,?_⟩
    .have hsm':¬ (16777216 < len*i.size):=by omega
     simp only [Instr.buildSlice,Sem.run_bind,run_underlying ht,Result.andThen_ok,sizeOf,typeInfo,run_program,hi,Sem.run_pure,gt_iff_lt]
     simp [hsm',h0,zeroValue,typeInfo,hi,hz,hd1,Go.newRow]
    .have:=VR.slice (ρ:=ρ') (o:=0) (n:=len) (c:=len) hρ hG (Nat.le_refl _) (λ_=>rfl)
     simpa using this
 .cases hb

end
end Go.Am
namespace Go.Am
open Go.RowKit

section
variable {P:Program} {T:Tab} {ρ:Rho} {h h':Heap} {w:World}

theorem zbK {x y:Vly} {hi i:Nat} (hxy:VR ρ x y) (hb:zgJ x hi=some i) {hi':Nat} (hle:hi<=hi') (code:BoundsCode) (w:World):(Instr.sliceBound y hi' code).run P w=.ok i w/\i<=hi:=by
 cases hxy with
 |int k n =>
  simp only [zgJ] at hb
  split at hb
  .rename_i hc
   cases hb
   have hc':0<=n/\n<=(hi':Int):=⟨hc.1,by omega⟩
   exact ⟨by simp [Instr.sliceBound,asIntOf,hc'],by omega⟩
  .cases hb
 |_=>simp [zgJ] at hb

def OptR (ρ:Rho):Option Vly->Option Vly->Prop
 |none,none=>True
 |some x,some y=>VR ρ x y
 |_,_=>False

theorem zaP {len cap cap' l' h' m':Nat} {l h m ll hh mm:Option Vly} (hl:OptR ρ l ll) (hhh:OptR ρ h hh) (hm:OptR ρ m mm) (hb:zbL len cap l h m=some (l',h',m')) (hlen:len<=cap) (hcap:cap<=cap') (za6:Bool) (w:World) :
 (Instr.sliceBounds za6 len cap' ll hh mm).run P w=.ok (l',h',if m.isSome then m' else cap') w/\l'<=h'/\h'<=m'/\m'<=cap:=by
 simp only [zbL,Option.bind_eq_some_iff,Option.some.injEq,Prod.mk.injEq] at hb
 obtain ⟨m1,hm1,h1,hh1,l1,hl1,rfl,rfl,rfl⟩:=hb
 have lowOk:∀ (code:BoundsCode),(match ll with|some v=>Instr.sliceBound v h1 code|none=>(pure 0:Sem Nat)).run P w=.ok l1 w/\l1<=h1:=by
  intro code
  cases l with
  |none=>cases ll with
   |none=>simp only [Option.some.injEq] at hl1;subst hl1;exact ⟨rfl,Nat.zero_le _⟩
   |some v=>exact hl.elim
  |some x=>cases ll with
   |none=>exact hl.elim
   |some v=>exact zbK hl hl1 (Nat.le_refl _) code w
 cases m with
 |none =>
  cases mm with
  |some v=>exact hm.elim
  |none =>
   simp only [Option.some.injEq] at hm1
   subst hm1
   cases h with
   |none=>cases hh with
    |some v=>exact hhh.elim
    |none =>
     simp only [Option.some.injEq] at hh1
     subst hh1
     obtain ⟨k1,k2⟩:=lowOk .sliceB
     refine ⟨?_,k2,hlen,Nat.le_refl _⟩
     simp only [Instr.sliceBounds,Sem.run_bind,Sem.run_pure,Result.andThen_ok,Option.isSome_none,Bool.false_eq_true,if_false]
     cases ll with
     |none =>
      have e:l1=0:=by have:=k1;simp at this;exact this.symm
      simp [e]
     |some u =>
      have e:(Instr.sliceBound u len .sliceB).run P w=.ok l1 w:=k1
      simp only [Sem.run_bind,e,Result.andThen_ok,Sem.run_pure]
   |some x=>cases hh with
    |none=>exact hhh.elim
    |some v =>
     have hb1:=zbK (P:=P) hhh hh1 hcap (if za6 then BoundsCode.sliceAcap else .sliceAlen) w
     obtain ⟨k1,k2⟩:=lowOk .sliceB
     refine ⟨?_,k2,hb1.2,Nat.le_refl _⟩
     simp only [Instr.sliceBounds,Sem.run_bind,Sem.run_pure,Result.andThen_ok,Option.isSome_none,Bool.false_eq_true,if_false,hb1.1]
     cases ll with
     |none =>
      have e:l1=0:=by have:=k1;simp at this;exact this.symm
      simp [e]
     |some u =>
      have e:(Instr.sliceBound u h1 .sliceB).run P w=.ok l1 w:=k1
      simp only [Sem.run_bind,e,Result.andThen_ok,Sem.run_pure]
 |some q =>
  cases mm with
  |none=>exact hm.elim
  |some v =>
   have hbm:=zbK (P:=P) hm hm1 hcap (if za6 then BoundsCode.slice3Acap else .slice3Alen) w
   cases h with
   |none=>cases hh1
   |some x=>cases hh with
    |none=>exact hhh.elim
    |some v' =>
     have hb1:=zbK (P:=P) hhh hh1 (Nat.le_refl _) BoundsCode.slice3B w
     obtain ⟨k1,k2⟩:=lowOk .slice3C
     refine ⟨?_,k2,hb1.2,hbm.2⟩
     simp only [Instr.sliceBounds,Sem.run_bind,Result.andThen_ok,Option.isSome_some,if_true,hbm.1,hb1.1]
     cases ll with
     |none =>
      have e:l1=0:=by have:=k1;simp at this;exact this.symm
      simp [e]
     |some u =>
      have e:(Instr.sliceBound u h1 .slice3C).run P w=.ok l1 w:=k1
      simp only [Sem.run_bind,e,Result.andThen_ok,Sem.run_pure]

theorem zfW (hT:T.Fits P) {t:TypeId} {x y v:Vly} {l hi m ll hh mm:Option Vly} (hxy:VR ρ x y) (hl:OptR ρ l ll) (hhh:OptR ρ hi hh) (hm:OptR ρ m mm) (hs:zfV T t x l hi m=some v) (w:World) :
 ∃ vc,(Instr.sliceAt t y ll hh mm).run P w=.ok vc w/\VR ρ v vc:=by
 unfold zfV at hs
 split at hs
 .rename_i s hd
  cases hxy
  have ht:=hT.desc _ _ hd
  split at hs
  .cases hs
  .rename_i hmn
   have hm0:m=none:=by cases m <;> simp_all
   subst hm0
   have hmm:mm=none:=by cases mm with|none=>rfl|some _=>exact hm.elim
   subst hmm
   simp only [Option.map_eq_some_iff,Prod.exists] at hs
   obtain ⟨l',h',m',hb,rfl⟩:=hs
   obtain ⟨k1,k2,k3,k4⟩:=zaP (P:=P) (m:=none) (mm:=none) hl hhh trivial hb (Nat.le_refl _) (Nat.le_refl _) false w
   refine ⟨_,?_,.string _⟩
   simp [Instr.sliceAt,Instr.slice,run_underlying ht,k1]
 .rename_i n e A o hd
  cases hxy with
  |ptr hA =>
   rename_i L
   have ht:=hT.desc _ _ hd
   simp only [Option.bind_eq_some_iff,Option.map_eq_some_iff,Prod.exists] at hs
   obtain ⟨l',h',m',hb,k,hk,rfl⟩:=hs
   have hnG:n < G:=by
    rcases Nat.lt_or_ge n G with hlt|hge
    .exact hlt
    .rw [if_neg (by omega)] at hb;cases hb
   rw [if_pos hnG] at hb
   obtain ⟨k1,k2,k3,k4⟩:=zaP (P:=P) hl hhh hm hb (Nat.le_refl _) (Nat.le_refl _) false w
   have hm'':(if m.isSome then m' else n)=m':=by
    cases m with
    |some _=>rfl
    |none =>
     simp only [zbL,Option.bind_eq_some_iff,Option.some.injEq,Prod.mk.injEq] at hb
     obtain ⟨m1,hm1,h1,hh1,l1,hl1,rfl,rfl,rfl⟩:=hb
     simp [hm1]
   rw [hm''] at k1
   have hsz:=zam hT hk w
   refine ⟨.slice (some (if m'=l' then ⟨L.b,L.s+o,none⟩ else (⟨L.b,L.s+o,none⟩:Addr).add (l'*k))) (h' - l') (m' - l'),?_,?_⟩
   .simp only [Instr.sliceAt,Sem.run_bind,run_underlying ht,Result.andThen_ok,Instr.sureAddr,Sem.run_pure,k1,hsz]
   .by_cases hG:m' - l' < G
    .refine .slice hA hG (by omega) (λh0=>?_)
     rw [if_neg (by omega),if_neg (by omega),Addr.add_mid,Nat.add_assoc]
    .exfalso
     omega
 .rename_i e a n c hd
  have ht:=hT.desc _ _ hd
  simp only [Option.bind_eq_some_iff] at hs
  obtain ⟨k,hk,hs⟩:=hs
  have hsz:=zam hT hk w
  split at hs
  .rename_i hcG
   simp only [Option.bind_eq_some_iff,Prod.exists] at hs
   obtain ⟨l',h',m',hb,hs⟩:=hs
   have hm'':(if m.isSome then m' else c)=m':=by
    cases m with
    |some _=>rfl
    |none =>
     simp only [zbL,Option.bind_eq_some_iff,Option.some.injEq,Prod.mk.injEq] at hb
     obtain ⟨m1,hm1,h1,hh1,l1,hl1,rfl,rfl,rfl⟩:=hb
     simp [hm1]
   cases hxy with
   |sliceNil =>
    obtain ⟨k1,k2,k3,k4⟩:=zaP (P:=P) hl hhh hm hb (Nat.le_refl _) (Nat.le_refl _) true w
    rw [hm''] at k1
    simp only [Option.some.injEq] at hs
    subst hs
    have e1:h' - l'=0:=by omega
    have e2:m' - l'=0:=by omega
    refine ⟨.slice none (h' - l') (m' - l'),?_,by rw [e1,e2];exact .sliceNil⟩
    simp [Instr.sliceAt,Instr.slice,run_underlying ht,k1,hsz]
   |slice hA hc hn had =>
    rename_i A o L ad
    obtain ⟨k1,k2,k3,k4⟩:=zaP (P:=P) hl hhh hm hb hn (Nat.le_refl _) true w
    rw [hm''] at k1
    simp only [Option.some.injEq] at hs
    subst hs
    refine ⟨.slice (if m'=l' then some ad else some (ad.add (l'*k))) (h' - l') (m' - l'),?_,?_⟩
    .simp [Instr.sliceAt,Instr.slice,run_underlying ht,k1,hsz]
    .have hx:(if m'=l' then some ad else some (ad.add (l'*k)))=some (if m'=l' then ad else ad.add (l'*k)):=by split <;> rfl
     rw [hx]
     refine .slice hA (by omega) (by omega) (λh0=>?_)
     rw [if_neg (by omega),if_neg (by omega),had (by omega),Addr.add_mid,Nat.add_assoc]
   |sliceG hA hc hlo hn hk' hmx had=>omega
  .rename_i hcG
   split at hs
   .rename_i A o
    split at hs
    .rename_i hck
     simp only [Option.map_eq_some_iff,Prod.exists] at hs
     obtain ⟨l',h',m',hb,rfl⟩:=hs
     cases hxy with
     |slice hA hc hn had=>omega
     |sliceG hA hc hlo hn hk' hmx had =>
      rename_i c' L ad
      obtain ⟨k1,k2,k3,k4⟩:=zaP (P:=P) hl hhh hm hb hn hlo true w
      cases m with
      |some q =>
       simp only [Option.isSome_some,if_true] at k1
       refine ⟨.slice (if m'=l' then some ad else some (ad.add (l'*k))) (h' - l') (m' - l'),?_,?_⟩
       .simp [Instr.sliceAt,Instr.slice,run_underlying ht,k1,hsz]
       .have hx:(if m'=l' then some ad else some (ad.add (l'*k)))=some (if m'=l' then ad else ad.add (l'*k)):=by split <;> rfl
        rw [hx]
        have hlt:c % G < G:=Nat.mod_lt _ (by unfold G;omega)
        refine .slice hA (by omega) (by omega) (λh0=>?_)
        rw [if_neg (by omega),if_neg (by omega),(had (by omega)).1,Addr.add_mid,Nat.add_assoc]
      |none =>
       simp only [Option.isSome_none,Bool.false_eq_true,if_false] at k1
       have hm1:m'=c % G:=by
        simp only [zbL,Option.bind_eq_some_iff,Option.some.injEq,Prod.mk.injEq] at hb
        obtain ⟨m1,hm1,h1,hh1,l1,hl1,rfl,rfl,rfl⟩:=hb
        exact hm1.symm
       subst hm1
       refine ⟨.slice (if c'=l' then some ad else some (ad.add (l'*k))) (h' - l') (c' - l'),?_,?_⟩
       .simp [Instr.sliceAt,Instr.slice,run_underlying ht,k1,hsz]
       .have hx:(if c'=l' then some ad else some (ad.add (l'*k)))=some (if c'=l' then ad else ad.add (l'*k)):=by split <;> rfl
        rw [hx]
        have hlt:c % G < G:=Nat.mod_lt _ (by unfold G;omega)
        have hoc:=zfc (k:=k) (q:=c % G - l') (by omega) (by omega)
        refine .sliceG hA hoc.1 (by rw [hoc.2.1];omega) (by rw [hoc.2.1];omega) (by rw [hoc.2.2];omega) (by omega) (λh0=>?_)
        obtain ⟨rfl,hfit⟩:=had (by omega)
        rw [if_neg (by omega),Addr.add_mid,hoc.2.2]
        refine ⟨by rw [Nat.add_assoc],?_⟩
        rw [hck] at hfit
        have e1:c'*k=l'*k+(c' - l')*k:=by rw [<- Nat.add_mul];congr 1;omega
        omega
    .cases hs
   .cases hs
 .cases hs

theorem zdd (hT:T.Fits P) {t:TypeId} {x y i j v:Vly} (hxy:VR ρ x y) (hij:VR ρ i j) (hs:zbF T t x i=some v) (w:World) :
 ∃ vc,(Instr.indexAt t y j).run P w=.ok vc w/\VR ρ v vc:=by
 unfold zbF at hs
 split at hs
 .rename_i k i
  cases hij
  split at hs
  .rename_i n e A o hd
   cases hxy with
   |ptr hA =>
    rename_i L
    have ht:=hT.desc _ _ hd
    split at hs
    .rename_i hi
     simp only [Option.map_eq_some_iff] at hs
     obtain ⟨q,hq,rfl⟩:=hs
     refine ⟨.pointer (some ⟨L.b,L.s+(o+i.toNat*q),none⟩),?_,.ptr hA⟩
     simp [Instr.indexAt,asIntOf,run_underlying ht,Instr.sureAddr,hi,zam hT hq,Addr.add_mid,Nat.add_assoc]
    .cases hs
  .rename_i e A o n c hd
   have ht:=hT.desc _ _ hd
   split at hs
   .rename_i hi
    simp only [Option.map_eq_some_iff] at hs
    obtain ⟨q,hq,rfl⟩:=hs
    have key:∃ L c',ρ A=some L/\y=.slice (some ⟨L.b,L.s+o,none⟩) n c':=by
     cases hxy with
     |slice hA hc hn had =>
      obtain rfl:=had (by omega)
      exact ⟨_,_,hA,rfl⟩
     |sliceG hA hc hlo hn hk hm had =>
      obtain ⟨rfl,_⟩:=had (by omega)
      exact ⟨_,_,hA,rfl⟩
    obtain ⟨L,c',hA,rfl⟩:=key
    refine ⟨.pointer (some ⟨L.b,L.s+(o+i.toNat*q),none⟩),?_,.ptr hA⟩
    simp [Instr.indexAt,asIntOf,run_underlying ht,hi,zam hT hq,Addr.add_mid,Nat.add_assoc]
   .cases hs
  .cases hs
 .cases hs

theorem zdb (hT:T.Fits P) {t:TypeId} {x y v:Vly} {f:Nat} (hxy:VR ρ x y) (hs:zat T t x f=some v) (w:World) :
 ∃ vc,(Instr.fieldAt t y f).run P w=.ok vc w/\VR ρ v vc:=by
 unfold zat at hs
 split at hs
 .rename_i fs A o hd
  cases hxy with
  |ptr hA =>
   rename_i L
   have ht:=hT.desc _ _ hd
   simp only [Option.bind_eq_some_iff] at hs
   obtain ⟨fl,hf,n,hn,hs⟩:=hs
   split at hs
   .cases hs
   .rename_i h0
    cases hs
    refine ⟨.pointer (some ⟨L.b,L.s+(o+fl.offset),none⟩),?_,.ptr hA⟩
    simp [Instr.fieldAt,run_underlying ht,hf,Instr.sureAddr,fieldPlace,zam hT hn,h0,Addr.add_mid,Nat.add_assoc]
 .cases hs

theorem zdE (hT:T.Fits P) {t:TypeId} {cs:List Vly} {ds:Array Vly} {o:Nat} {v:Vly} (hv:VRs ρ cs ds.toList) (hs:zfd T t cs o=some v) (w:World) :
 ∃ vc,(part t ds o).run P w=.ok vc w/\VR ρ v vc:=by
 simp only [zfd,aggA,Option.bind_eq_some_iff,Option.map_eq_some_iff] at hs
 obtain ⟨g,⟨d,hd,hg⟩,hs⟩:=hs
 have ht:=hT.desc _ _ hd
 have hagg:(isAgg t).run P w=.ok g w:=by
  unfold isAgg
  rw [Sem.run_bind,run_underlying ht w]
  cases d <;> simp_all
 cases g with
 |true =>
  simp only [if_true,Option.bind_eq_some_iff,Option.map_eq_some_iff] at hs
  obtain ⟨n,hn,l,hl,rfl⟩:=hs
  obtain ⟨d',hd',hvd⟩:=hv.cut hl
  refine ⟨.agg d'.toArray,?_,hvd.toArray⟩
  have hx:ds.extract o (o+n)=d'.toArray:=by
   unfold cut at hd'
   split at hd'
   .cases hd'
    apply Array.ext'
    simp [List.take_drop]
   .cases hd'
  simp [part,hagg,zam hT hn,hx]
 |false =>
  simp only [Bool.false_eq_true,if_false] at hs
  obtain ⟨u,hu,hvu⟩:=hv.get hs
  refine ⟨u,?_,hvu⟩
  have hu':ds[o]? = some u:=by simpa using hu
  simp [part,hagg,hu']

theorem zfG (hT:T.Fits P) {t:TypeId} {x y v:Vly} {f:Nat} (hxy:VR ρ x y) (hs:zfF T t x f=some v) (w:World) :
 ∃ vc,(Instr.field t y f).run P w=.ok vc w/\VR ρ v vc:=by
 unfold zfF at hs
 split at hs
 .rename_i fs cs hd
  have ht:=hT.desc _ _ hd
  simp only [Option.bind_eq_some_iff] at hs
  obtain ⟨fl,hf,hs⟩:=hs
  cases hxy with
  |agg hc hh =>
   rename_i ds
   obtain ⟨vc,hr,hv⟩:=zdE hT (VR.agg hc hh).aggs hs w
   refine ⟨vc,?_,hv⟩
   simp [Instr.field,run_underlying ht,hf,asAgg,hr]
 .cases hs

theorem zeV {op:BinOp} {t:TypeId} {x y v:Vly} (hs:zf3 op x y=some v):zan P (binOp op t x y)=some v/\plain x=true/\plain y=true/\plain v=true/\(∃ k a,x=.int k a):=by
 unfold zf3 at hs
 split at hs <;> first|(cases hs;done)|(split at hs <;> first|(cases hs;done)|(rename_i hk;subst hk;cases hs;exact ⟨by simp [binOp,Op.intArith,Op.intCmp,zan,pure],rfl,rfl,rfl,_,_,rfl⟩))

theorem zf8 {t:TypeId} {d:TypeDesc} (hd:P.underlying t=some d) {x y x' y':Vly} {b:Bool} (hx:VR ρ x x') (hy:VR ρ y y') (he:zhu d x y=some b) (w:World) :
 (Op.equal t x' y').run P w=.ok b w/\∀ (op:BinOp),op=.eql\/op=.neq->binOp op t x' y'=(if op=.eql then (do pure (.bool (<- Op.equal t x' y'))) else (do pure (.bool (!(<- Op.equal t x' y'))))):=by
 have key:(∀ d0:Nat,(Op.equalIn (d0+1) t x' y').run P w=.ok b w)/\∀ (op:BinOp),op=.eql\/op=.neq->binOp op t x' y'=(if op=.eql then (do pure (.bool (<- Op.equal t x' y'))) else (do pure (.bool (!(<- Op.equal t x' y'))))):=by
  unfold zhu at he
  split at he <;> first
   |(cases he;done)
   |(cases hx <;> cases hy <;> simp at he <;> subst he <;> exact ⟨λd0=>by simp [Op.equalIn,run_underlying hd],by rintro op (rfl|rfl) <;> rfl⟩)
 exact ⟨key.1 9999,key.2⟩

theorem zbb (op:BinOp) (t:TypeId) (x y:Operand) (a b:Vly) (ha:a≠.nilIface) (hagg:∀ c d,a=.agg c->b=.agg d->P.eqGuardType P.depth t=false) (w:World):(eqGuard op t x y a b).run P w=.ok () w:=by
 unfold eqGuard
 cases op <;> simp only [Bool.not_true,Bool.not_false,if_true,if_false,Bool.false_eq_true] <;> try rfl
 all_goals
  cases a <;> first|exact (ha rfl).elim|skip
 all_goals
  cases b <;> first|rfl|skip
 all_goals
  simp [hagg _ _ rfl rfl]

theorem zbI (hT:T.Fits P) {t:TypeId} {cs:Array Vly} {o:Nat} {v:Vly} (hs:zfd T t cs.toList o=some v) (w:World):(part t cs o).run P w=.ok v w:=by
 simp only [zfd,aggA,Option.bind_eq_some_iff,Option.map_eq_some_iff] at hs
 obtain ⟨g,⟨d,hd,hg⟩,hs⟩:=hs
 have ht:=hT.desc _ _ hd
 have hagg:(isAgg t).run P w=.ok g w:=by
  unfold isAgg
  rw [Sem.run_bind,run_underlying ht w]
  cases d <;> simp_all
 cases g with
 |true =>
  simp only [if_true,Option.bind_eq_some_iff,Option.map_eq_some_iff] at hs
  obtain ⟨n,hn,l,hl,rfl⟩:=hs
  have hx:cs.extract o (o+n)=l.toArray:=by
   unfold cut at hl
   split at hl
   .cases hl
    apply Array.ext'
    simp [List.take_drop]
   .cases hl
  simp [part,hagg,zam hT hn,hx]
 |false =>
  simp only [Bool.false_eq_true,if_false] at hs
  have hu':cs[o]? = some v:=by simpa using hs
  simp [part,hagg,hu']
theorem zcm (hT:T.Fits P) {E:TypeId->Vly->Vly->Option Bool} {d:Nat} (w:World) (hE:∀ t x y b,E t x y=some b->(Op.equalIn d t x y).run P w=.ok b w) (xs ys:Array Vly) :
 ∀ (fs:List Field) (ps:List (TypeId × Nat)) (b:Bool),zbh fs=some ps->zbM T E xs.toList ys.toList ps=some b->(Op.eqFields d xs ys fs).run P w=.ok b w
 | [],ps,b,hp,he=>by
  cases hp
  cases he
  simp [Op.eqFields]
 |f::fs,ps,b,hp,he=>by
  simp only [zbh] at hp
  split at hp
  .cases hp
  .rename_i hn
   simp only [Option.map_eq_some_iff] at hp
   obtain ⟨r,hr,rfl⟩:=hp
   simp only [zbM,Option.bind_eq_some_iff] at he
   obtain ⟨a,ha,c,hc,q,hq,he⟩:=he
   have h1:=zbI hT ha w
   have h2:=zbI hT hc w
   have h3:=hE _ _ _ _ hq
   simp only [Op.eqFields]
   rw [if_pos (by simpa using hn)]
   simp only [Sem.run_bind,h1,h2,h3,Result.andThen_ok]
   cases q with
   |false =>
    simp only [Bool.false_eq_true,if_false,Option.some.injEq] at he
    subst he
    simp
   |true =>
    simp only [if_true] at he
    simpa using zcm hT w hE xs ys fs r b hr he
theorem zcE (hT:T.Fits P) {E:TypeId->Vly->Vly->Option Bool} {d:Nat} (w:World) (hE:∀ t x y b,E t x y=some b->(Op.equalIn d t x y).run P w=.ok b w) (xs ys:Array Vly) (e:TypeId) (k:Nat) :
 ∀ (n i:Nat) (b:Bool),zbM T E xs.toList ys.toList (zbG e k n i)=some b->(Op.eqItems d e k xs ys (List.range' i n)).run P w=.ok b w
 |0,i,b,he=>by
  cases he
  simp [Op.eqItems]
 |n+1,i,b,he=>by
  simp only [zbG,zbM,Option.bind_eq_some_iff] at he
  obtain ⟨a,ha,c,hc,q,hq,he⟩:=he
  have h1:=zbI hT ha w
  have h2:=zbI hT hc w
  have h3:=hE _ _ _ _ hq
  simp only [List.range'_succ,Op.eqItems,Sem.run_bind,h1,h2,h3,Result.andThen_ok]
  cases q with
  |false =>
   simp only [Bool.false_eq_true,if_false,Option.some.injEq] at he
   subst he
   simp
  |true =>
   simp only [if_true] at he
   simpa using zcE hT w hE xs ys e k n (i+1) b he
theorem zbD (hT:T.Fits P) (w:World):∀ (d D:Nat) (t:TypeId) (x y:Vly) (b:Bool),eqIn T d t x y=some b->(Op.equalIn (D+d) t x y).run P w=.ok b w
 |0,_,_,_,_,_,he=>by simp [eqIn] at he
 |d+1,D,t,x,y,b,he=>by
  unfold eqIn at he
  split at he
  .rename_i a c hd
   cases he
   exact run_equalIn_bool w (D+d) t a c (hT.desc _ _ hd)
  .rename_i q k a k' c hd
   split at he
   .rename_i hk
    subst hk
    cases he
    exact run_equalIn_int w (D+d) t k q a c (hT.desc _ _ hd)
   .cases he
  .rename_i a c hd
   cases he
   rw [show D+(d+1)=(D+d)+1 from rfl,run_equalIn_string w (D+d) t a c (hT.desc _ _ hd),ByteArray.toList_eq,ByteArray.toList_eq]
  .rename_i fs xs ys hd
   split at he
   .rename_i hc
    simp only [Option.bind_eq_some_iff] at he
    obtain ⟨ps,hp,he⟩:=he
    have hu:=hT.desc _ _ hd
    have hf:P.fieldsOf t=fs:=by simp [Program.fieldsOf,hu]
    rw [show D+(d+1)=(D+d)+1 from rfl,run_equalIn_struct w (D+d) t xs ys (by rw [hf];exact hu) (hT.cmp t hc).1,hf]
    exact zcm hT w (λt x y b hb=>zbD hT w d D t x y b hb) xs ys fs.toList ps b hp he
   .cases he
  .rename_i n e xs ys hd
   simp only [Option.bind_eq_some_iff] at he
   obtain ⟨k,hk,he⟩:=he
   have hu:=hT.desc _ _ hd
   simp only [zb2,Option.map_eq_some_iff] at hk
   obtain ⟨⟨n',b',z⟩,hi,rfl⟩:=hk
   obtain ⟨i,zv,hinf,hsz,_⟩:=hT.info _ _ _ _ hi
   have hcells:P.cellsOf e=n':=by simp [Program.cellsOf,hinf,hsz]
   rw [show D+(d+1)=(D+d)+1 from rfl,run_equalIn_array w (D+d) xs ys hu hinf,hcells]
   have:=zcE hT w (λt x y b hb=>zbD hT w d D t x y b hb) xs ys e n' n 0 b he
   rw [List.range_eq_range']
   exact this
  .cases he

theorem zgI (hT:T.Fits P) {op:BinOp} {t:TypeId} {x y x' y' v:Vly} (hx:VR ρ x x') (hy:VR ρ y y') (hs:binA P T op t x y=some v) (ox oy:Operand) (w:World) :
 ∃ vc,(do eqGuard op t ox oy x' y';binOp op t x' y':Sem Vly).run P w=.ok vc w/\VR ρ v vc:=by
 unfold binA at hs
 split at hs
 .rename_i v' hf
  cases hs
  obtain ⟨h1,h2,h3,h4,k,a,rfl⟩:=zeV (P:=P) (t:=t) hf
  have e1:=hx.eq_plain h2
  have e2:=hy.eq_plain h3
  subst e1 e2
  refine ⟨v,?_,.of_plain ρ h4⟩
  rw [Sem.run_bind,zbb op t ox oy (.int k a) _ (by simp) (by intro c d e;cases e) w]
  exact zaS P _ _ h1 w
 .split at hs
  .rename_i b hb
   simp only [Option.bind_eq_some_iff] at hb
   obtain ⟨d,hd,he⟩:=hb
   have ht:=hT.desc _ _ hd
   obtain ⟨h1,h2⟩:=zf8 ht hx hy he w
   have hna:x'≠.nilIface/\(∀ c,x'≠.agg c):=by
    unfold zhu at he
    split at he <;> first|(cases he;done)|(cases hx <;> exact ⟨by simp,by simp⟩)
   have hg:=zbb (P:=P) op t ox oy x' y' hna.1 (by intro c d e;exact (hna.2 c e).elim) w
   split at hs
   .cases hs
    refine ⟨.bool b,?_,.bool _⟩
    simp only [Sem.run_bind,hg,Result.andThen_ok,h2 .eql (.inl rfl),if_true,h1,Sem.run_pure]
   .cases hs
    refine ⟨.bool !b,?_,.bool _⟩
    simp only [Sem.run_bind,hg,Result.andThen_ok,h2 .neq (.inr rfl),reduceCtorEq,if_false,h1,Sem.run_pure]
   .cases hs
  .split at hs
   .rename_i hp
    simp only [Bool.and_eq_true] at hp
    have e1:=hx.eq_plain hp.1
    have e2:=hy.eq_plain hp.2
    subst e1 e2
    have fin:∀ (hs:((zan P (binOp op t x' y')).bind λv=>if plain v then some v else none)=some v) (hg:(eqGuard op t ox oy x' y').run P w=.ok () w),
     ∃ vc,(do eqGuard op t ox oy x' y';binOp op t x' y':Sem Vly).run P w=.ok vc w/\VR ρ v vc:=by
     intro hs hg
     simp only [Option.bind_eq_some_iff] at hs
     obtain ⟨v1,hr,hs⟩:=hs
     split at hs
     .rename_i hpv
      cases hs
      refine ⟨v,?_,.of_plain ρ hpv⟩
      simp only [Sem.run_bind,hg,Result.andThen_ok]
      exact zaS P _ _ hr w
     .cases hs
    split at hs
    .cases hs
    .rename_i c d
     split at hs
     .rename_i hgt
      have hg:=λxs ys=>zbb (P:=P) op t ox oy (.agg xs) (.agg ys) (by simp) (by intro _ _ _ _;exact (hT.cmp t hgt).2) w
      split at hs
      .simp only [Option.map_eq_some_iff] at hs
       obtain ⟨b,hb,rfl⟩:=hs
       refine ⟨.bool b,?_,.bool _⟩
       simp only [Sem.run_bind,hg,Result.andThen_ok]
       rw [run_eql_struct,zbD hT w 20 9980 t _ _ b hb]
       rfl
      .simp only [Option.map_eq_some_iff] at hs
       obtain ⟨b,hb,rfl⟩:=hs
       refine ⟨.bool !b,?_,.bool _⟩
       simp only [Sem.run_bind,hg,Result.andThen_ok]
       rw [run_neq_struct,zbD hT w 20 9980 t _ _ b hb]
       rfl
      .cases hs
     .cases hs
    .rename_i h1 h2
     refine fin hs (zbb op t ox oy _ _ ?_ ?_ w)
     .intro e;exact h1 e
     .intro c d e1 e2;exact (h2 c d e1 e2).elim
   .cases hs

theorem zgU (hT:T.Fits P) (hs:Sim ρ h w) {t ty:TypeId} {x y v:Vly} (hxy:VR ρ x y) (hl:lenA T t x h=some v) (ts:List TypeId) :
 ∃ vc,(Builtin.len_ (t::ts).toArray ty #[y]).run P w=.ok vc w/\VR ρ v vc:=by
 unfold lenA at hl
 split at hl
 .rename_i s hd
  cases hxy
  cases hl
  exact ⟨_,by simp [Builtin.len_,run_underlying (hT.desc _ _ hd),goInt],.int _ _⟩
 .rename_i e a n c hd
  cases hl
  have key:∃ a' c',y=.slice a' n c':=by cases hxy <;> exact ⟨_,_,rfl⟩
  obtain ⟨a',c',rfl⟩:=key
  exact ⟨_,by simp [Builtin.len_,run_underlying (hT.desc _ _ hd),goInt],.int _ _⟩
 .rename_i a b hd
  cases hxy
  cases hl
  exact ⟨_,by simp [Builtin.len_,run_underlying (hT.desc _ _ hd),goInt],.int _ _⟩
 .rename_i a b A hd
  split at hl
  .rename_i es clock hg
   cases hl
   cases hxy with
   |map hA =>
    rename_i L
    have hb:=hs.blk A L hA
    rw [hg] at hb
    obtain ⟨ces,hc,he⟩:=hb
    refine ⟨.int .i64 (ces.size:Nat),by simp [Builtin.len_,run_underlying (hT.desc _ _ hd),goInt,getObj,Sem.run,hc],?_⟩
    have e1:(es.length:Int)=(ces.size:Int):=by have:=he.1;simp at this;omega
    rw [e1]
    exact .int _ _
  .cases hl
 .cases hl
end
end Go.Am
namespace Go.Am
open Go.RowKit
section
variable {P:Program} {T:Tab} {ρ:Rho} {h h':Heap} {w:World}

theorem zc8 {α:Type} (P:Program) (w:World) (l:List α) (g:α->PUnit->Sem (ForInStep PUnit)) (hf:∀ x∈l,(g x PUnit.unit).run P w=.ok (.yield PUnit.unit) w) :
 (forIn l PUnit.unit g:Sem PUnit).run P w=.ok PUnit.unit w:=by
 induction l with
 |nil=>simp
 |cons x l ih =>
  have h1:=hf x (by simp)
  have h2:=ih (λy hy=>hf y (by simp [hy]))
  simp only [List.forIn_cons,Sem.run_bind,h1,Result.andThen_ok,h2]

theorem zct {E:TypeId->Vly->Vly->Option Bool} {xs:List Vly}:∀ {ps:List (TypeId × Nat)},zbM T E xs xs ps=some true->∀ p∈ps,∃ a,zfd T p.1 xs p.2=some a/\E p.1 a a=some true
 | [],_,p,hp=>by cases hp
 |(t,o)::r,he,p,hp=>by
  simp only [zbM,Option.bind_eq_some_iff] at he
  obtain ⟨a,ha,c,hc,q,hq,he⟩:=he
  rw [ha] at hc
  cases hc
  cases q with
  |false=>simp at he
  |true =>
   simp only [if_true] at he
   rcases List.mem_cons.1 hp with rfl|hp
   .exact ⟨a,ha,hq⟩
   .exact zct he p hp

theorem zcp:∀ {fs:List Field} {ps:List (TypeId × Nat)},zbh fs=some ps->∀ f∈fs,(f.type,f.offset)∈ps
 | [],_,_,f,hf=>by cases hf
 |g::fs,ps,hp,f,hf=>by
  simp only [zbh] at hp
  split at hp
  .cases hp
  .simp only [Option.map_eq_some_iff] at hp
   obtain ⟨r,hr,rfl⟩:=hp
   rcases List.mem_cons.1 hf with rfl|hf
   .simp
   .exact List.mem_cons_of_mem _ (zcp hr f hf)

theorem zcI {e:TypeId} {k:Nat}:∀ (n i j:Nat),i<=j->j < i+n->(e,j*k)∈zbG e k n i
 |0,i,j,h1,h2=>by omega
 |n+1,i,j,h1,h2=>by
  simp only [zbG]
  by_cases e:i=j
  .subst e;simp
  .exact List.mem_cons_of_mem _ (zcI n (i+1) j (by omega) (by omega))

theorem zcr (hT:T.Fits P) (w:World) (em:Bool):∀ (d D:Nat) (t:TypeId) (x y:Vly),eqIn T d t x y=some true->y=x->(Instr.checkKey em (D+d) t x).run P w=.ok () w
 |0,_,_,_,_,he,_=>by simp [eqIn] at he
 |d+1,D,t,x,y,he,hyx=>by
  unfold eqIn at he
  rw [show D+(d+1)=(D+d)+1 from rfl]
  split at he
  .rename_i a c hd
   simp [Instr.checkKey,run_underlying (hT.desc _ _ hd)]
  .rename_i q k a k' c hd
   simp [Instr.checkKey,run_underlying (hT.desc _ _ hd)]
  .rename_i a c hd
   simp [Instr.checkKey,run_underlying (hT.desc _ _ hd)]
  .rename_i fs xs ys hd
   cases hyx
   split at he
   .simp only [Option.bind_eq_some_iff] at he
    obtain ⟨ps,hp,he⟩:=he
    have hall:=zct he
    simp only [Instr.checkKey,Sem.run_bind,run_underlying (hT.desc _ _ hd),Result.andThen_ok]
    rw [<- Array.forIn_toList]
    rw [zc8 P w fs.toList]
    .simp
    .intro f hf
     obtain ⟨a,ha,hq⟩:=hall _ (zcp hp f hf)
     have h1:=zcr hT w em d D f.type a a hq rfl
     split
     .simp only [Sem.run_bind,zbI hT ha w,Result.andThen_ok,h1,Sem.run_pure]
     .simp
   .cases he
  .rename_i n e xs ys hd
   cases hyx
   simp only [Option.bind_eq_some_iff] at he
   obtain ⟨k,hk,he⟩:=he
   have hall:=zct he
   simp only [Instr.checkKey,Sem.run_bind,run_underlying (hT.desc _ _ hd),Result.andThen_ok]
   simp only [Std.Legacy.Range.forIn_eq_forIn_range',Std.Legacy.Range.size,Nat.sub_zero,Nat.add_sub_cancel,Nat.div_one]
   rw [zc8 P w]
   .simp
   .intro i hi
    have hi':i < n:=by simpa using hi
    obtain ⟨a,ha,hq⟩:=hall _ (zcI (e:=e) (k:=k) n 0 i (by omega) (by omega))
    have h1:=zcr hT w em d D e a a hq rfl
    simp only [Sem.run_bind,zam hT hk,zbI hT ha w,Result.andThen_ok,h1,Sem.run_pure]
  .cases he

theorem zaE (hT:T.Fits P) (w:World) (em:Bool) (d D:Nat) (t:TypeId) (x:Vly) (he:eqIn T d t x x=some true):(Instr.checkKey em (D+d) t x).run P w=.ok () w:=zcr hT w em d D t x x he rfl

theorem zbi {kt:TypeId} {k:Vly} (hk:ze5 T kt k=true):plain k=true/\eqIn T 20 kt k k=some true:=by
 unfold ze5 at hk
 split at hk
 .rename_i hp
  refine ⟨hp,?_⟩
  split at hk
  .rename_i b hb;rw [hb,hk]
  .cases hk
 .cases hk

def zg7 (ρ:Rho):Option (Nat × Vly)->Option (Nat × Vly)->Prop
 |none,none=>True
 |some (i,v),some (j,u)=>i=j/\VR ρ v u
 |_,_=>False

theorem EsR.of_cons {x:MapEntry} {l m:List MapEntry} (hl:EsR ρ (x::l) m):∃ y m',m=y::m'/\VR ρ x.key y.key/\VR ρ x.val y.val/\x.born=y.born/\plain x.key=true/\EsR ρ l m':=by
 cases m with
 |nil=>have:=hl.1;simp at this
 |cons y m =>
  obtain ⟨h1,h2,h3,h4⟩:=hl.2 0 x y rfl rfl
  exact ⟨y,m,rfl,h1,h2,h3,h4,by have:=hl.1;simpa using this,λi a b ha hb=>hl.2 (i+1) a b (by simpa using ha) (by simpa using hb)⟩
theorem EsR.of_nil {m:List MapEntry} (hl:EsR ρ [] m):m=[]:=by
 have:=hl.1
 simp at this
 exact List.eq_nil_of_length_eq_zero this.symm

theorem zg3 (hT:T.Fits P) {kt:TypeId} {d:TypeDesc} (hd:P.underlying kt=some d) {x y:Vly} {b c:Bool} (he:eqIn T 20 kt x y=some b) (hs:Instr.sameNow d x y=some c):b=c:=by
 unfold eqIn at he
 split at he
 .rename_i a c' hd'
  have:=hT.desc _ _ hd'
  rw [hd] at this
  cases this
  cases he
  simpa [Instr.sameNow] using hs
 .rename_i q k a k' c' hd'
  have:=hT.desc _ _ hd'
  rw [hd] at this
  cases this
  split at he
  .rename_i hk
   subst hk
   cases he
   simpa [Instr.sameNow] using hs
  .cases he
 .rename_i a c' hd'
  have:=hT.desc _ _ hd'
  rw [hd] at this
  cases this
  cases he
  simp only [Instr.sameNow,Option.some.injEq] at hs
  rw [<- hs,beq_toListBytes,ByteArray.toList_eq,ByteArray.toList_eq]
 .rename_i fs xs ys hd'
  have:=hT.desc _ _ hd'
  rw [hd] at this
  cases this
  simp [Instr.sameNow] at hs
 .rename_i n e xs ys hd'
  have:=hT.desc _ _ hd'
  rw [hd] at this
  cases this
  simp [Instr.sameNow] at hs
 .cases he

theorem zeG (hT:T.Fits P) {kt:TypeId} {d:TypeDesc} (hd:P.underlying kt=some d) {k:Vly}:∀ (es ces:List MapEntry) (i:Nat) (r r':Option (Nat × Vly)),EsR ρ es ces->zdc T kt k es i=some r->Instr.findNow d k ces i=some r'->zg7 ρ r r'
 | [],ces,i,r,r',he,hf,hn=>by
  rw [he.of_nil] at hn
  simp only [zdc,Instr.findNow,Option.some.injEq] at hf hn
  subst hf hn
  trivial
 |e::es,ces,i,r,r',he,hf,hn=>by
  obtain ⟨y,m,rfl,hk,hv,_,hp,he'⟩:=he.of_cons
  have hk':=hk.eq_plain hp
  simp only [zdc,Option.bind_eq_some_iff] at hf
  obtain ⟨b,hb,hf⟩:=hf
  simp only [Instr.findNow] at hn
  rw [hk'] at hn
  cases hsn:Instr.sameNow d k e.key with
  |none=>rw [hsn] at hn;cases hn
  |some c =>
   have:=zg3 hT hd hb hsn
   subst this
   rw [hsn] at hn
   cases b with
   |true =>
    simp only [if_true,Option.some.injEq] at hf hn
    subst hf hn
    exact ⟨rfl,hv⟩
   |false =>
    simp only [Bool.false_eq_true,if_false] at hf hn
    exact zeG hT hd es m (i+1) r r' he' hf hn

theorem zcG (hT:T.Fits P) (w:World) {kt:TypeId} {k:Vly}:∀ (es ces:List MapEntry) (i:Nat) (r:Option (Nat × Vly)),EsR ρ es ces->zdc T kt k es i=some r->∃ r',(Instr.findAsking kt k ces i).run P w=.ok r' w/\zg7 ρ r r'
 | [],ces,i,r,he,hf=>by
  rw [he.of_nil]
  simp only [zdc,Option.some.injEq] at hf
  subst hf
  exact ⟨none,by simp [Instr.findAsking],trivial⟩
 |e::es,ces,i,r,he,hf=>by
  obtain ⟨y,m,rfl,hk,hv,_,hp,he'⟩:=he.of_cons
  have hk':=hk.eq_plain hp
  simp only [zdc,Option.bind_eq_some_iff] at hf
  obtain ⟨b,hb,hf⟩:=hf
  have hq:(Op.equal kt k y.key).run P w=.ok b w:=by rw [hk'];exact zbD hT w 20 9980 kt _ _ b hb
  cases b with
  |true =>
   simp only [if_true,Option.some.injEq] at hf
   subst hf
   exact ⟨some (i,y.val),by simp [Instr.findAsking,hq],rfl,hv⟩
  |false =>
   simp only [Bool.false_eq_true,if_false] at hf
   obtain ⟨r',h1,h2⟩:=zcG hT w es m (i+1) r he' hf
   exact ⟨r',by simp [Instr.findAsking,hq,h1],h2⟩

theorem zgl (hT:T.Fits P) {kt:TypeId} {k:Vly} (hk:ze5 T kt k=true):∃ d,P.underlying kt=some d:=by
 obtain ⟨_,h1⟩:=zbi hk
 unfold eqIn at h1
 split at h1
 all_goals first|exact ⟨_,hT.desc _ _ ‹_›⟩|cases h1

theorem zcf (hT:T.Fits P) (w:World) {kt:TypeId} {k:Vly} (hk:ze5 T kt k=true) {es ces:List MapEntry} {r:Option (Nat × Vly)} (he:EsR ρ es ces) (hf:zdc T kt k es 0=some r) :
 ∃ r',(Instr.findKey kt k ces).run P w=.ok r' w/\zg7 ρ r r':=by
 obtain ⟨d,hd⟩:=zgl hT hk
 cases hn:Instr.findNow d k ces 0 with
 |some r'=>exact ⟨r',by simp [Instr.findKey,run_underlying hd,hn],zeG hT hd es ces 0 r r' he hf hn⟩
 |none =>
  obtain ⟨r',h1,h2⟩:=zcG hT w es ces 0 r he hf
  exact ⟨r',by simp [Instr.findKey,run_underlying hd,hn,h1],h2⟩

theorem zcj (hT:T.Fits P) {t:TypeId} {v:Vly} (hz:T.zero t=some v) (w:World):(zeroValue t).run P w=.ok v w/\VR ρ v v:=by
 obtain ⟨⟨i,hi,hiz⟩,hp⟩:=hT.zero t v hz
 exact ⟨by simp [zeroValue,typeInfo,hi,hiz],.of_plain ρ hp⟩

theorem zgp (hs:Sim ρ h w) {x y:Vly} (hxy:VR ρ x y) {es:List MapEntry} (hm:zih x h=some es) :
 ∃ ces:Array MapEntry,EsR ρ es ces.toList/\((y=.map none/\ces=#[])\/∃ A L clock,x=.map (some A)/\ρ A=some L/\y=.map (some L.b)/\h.get A=some (.map es clock)/\w.heap[L.b]? = some (.map ces clock)):=by
 unfold zih at hm
 split at hm
 .cases hm
  cases hxy
  exact ⟨#[],⟨rfl,by intro i x y hx;simp at hx⟩,.inl ⟨rfl,rfl⟩⟩
 .split at hm
  .rename_i A _ es' clock hg
   cases hm
   cases hxy with
   |map hA =>
    rename_i L
    have hb:=hs.blk A L hA
    rw [hg] at hb
    obtain ⟨ces,hc,he⟩:=hb
    exact ⟨ces,he,.inr ⟨A,L,clock,rfl,hA,rfl,hg,hc⟩⟩
  .cases hm
 .cases hm

theorem ze8 (hT:T.Fits P) (hs:Sim ρ h w) {t:TypeId} {x y k k' v:Vly} {ok:Bool} (hxy:VR ρ x y) (hk:VR ρ k k') (hl:zdA T t x k ok h=some v) :
 ∃ u,(Instr.lookup t y k' ok).run P w=.ok u w/\VR ρ v u:=by
 unfold zdA at hl
 split at hl
 .rename_i kt et hd
  split at hl
  .rename_i hkey
   simp only [Option.bind_eq_some_iff,Option.map_eq_some_iff,Prod.exists] at hl
   obtain ⟨es,hes,r,hr,v',b,hvb,hv⟩:=hl
   have hu:=hT.desc _ _ hd
   obtain ⟨hp,hself⟩:=zbi hkey
   have hkk:k'=k:=hk.eq_plain hp
   subst hkk
   obtain ⟨ces,he,hy⟩:=zgp hs hxy hes
   obtain ⟨r',hf,hfr⟩:=zcf hT w hkey he hr
   have hck:∀ em,(Instr.checkKey em 10000 kt k').run P w=.ok () w:=λem=>zaE hT w em 20 9980 kt k' hself
   have hpack:∀ u',VR ρ v' u'->VR ρ v (if ok then .tuple #[u',.bool b] else u'):=by
    intro u' hvu
    rw [<- hv]
    cases ok
    .exact hvu
    .simp only [if_true]
     exact (VRs.cons hvu (.cons (.bool b) (.nil ρ))).toTuple
   cases r with
   |none =>
    cases r' with
    |some q=>exact hfr.elim
    |none =>
     simp only [Option.map_eq_some_iff,Prod.mk.injEq] at hvb
     obtain ⟨z,hz,rfl,rfl⟩:=hvb
     obtain ⟨h1,h2⟩:=zcj (ρ:=ρ) hT hz w
     refine ⟨_,?_,hpack z h2⟩
     rcases hy with ⟨rfl,rfl⟩|⟨A,L,clock,_,_,rfl,_,hc⟩
     .simp only [Instr.lookup,Sem.run_bind,run_underlying hu,Result.andThen_ok,Sem.run_pure,hck,hf,h1]
     .have hg:(getObj L.b).run P w=.ok (.map ces clock) w:=by simp [getObj,Sem.run,hc]
      simp only [Instr.lookup,Sem.run_bind,run_underlying hu,Result.andThen_ok,Sem.run_pure,hg,hck,hf,h1]
   |some p =>
    cases r' with
    |none=>exact hfr.elim
    |some q =>
     obtain ⟨i,v1⟩:=p
     obtain ⟨j,u1⟩:=q
     simp only [Option.some.injEq,Prod.mk.injEq] at hvb
     obtain ⟨rfl,rfl⟩:=hvb
     refine ⟨_,?_,hpack u1 hfr.2⟩
     rcases hy with ⟨rfl,rfl⟩|⟨A,L,clock,_,_,rfl,_,hc⟩
     .simp only [Instr.lookup,Sem.run_bind,run_underlying hu,Result.andThen_ok,Sem.run_pure,hck,hf]
     .have hg:(getObj L.b).run P w=.ok (.map ces clock) w:=by simp [getObj,Sem.run,hc]
      simp only [Instr.lookup,Sem.run_bind,run_underlying hu,Result.andThen_ok,Sem.run_pure,hg,hck,hf]
  .cases hl
 .cases hl

theorem zgD:∀ {x y:Vly},zg2 x y=true->x=y:=by
 intro x y hh
 unfold zg2 at hh
 split at hh
 .simpa using hh
 .simp only [Bool.and_eq_true,decide_eq_true_eq,beq_iff_eq] at hh
  rw [hh.1,hh.2]
 .rename_i a b
  obtain ⟨⟨a⟩⟩:=a
  obtain ⟨⟨b⟩⟩:=b
  simpa using hh
 .cases hh
theorem zeQ:∀ {l m:List Vly},zc1 l m=true->l=m
 | [],[],_=>rfl
 |x::l,y::m,hh=>by
  simp only [zc1,Bool.and_eq_true] at hh
  rw [zgD hh.1,zeQ hh.2]
 | [],_::_,hh=>by cases hh
 |_::_,[],hh=>by cases hh
theorem zeP {x y:Vly} (hh:zg2 x y=true) (n:Nat):Instr.sameBits n x y=true:=by
 have:=zgD hh
 subst this
 unfold zg2 at hh
 split at hh
 .simp [Instr.sameBits]
 .simp [Instr.sameBits]
 .simp [Instr.sameBits,beq_toListBytes]
 .cases hh
theorem zc9:∀ {l m:List Vly},zc1 l m=true->∀ n,(l.zip m).all (λ(x,y)=>Instr.sameBits n x y)=true
 | [],[],_,_=>rfl
 |x::l,y::m,hh,n=>by
  simp only [zc1,Bool.and_eq_true] at hh
  simp only [List.zip_cons_cons,List.all_cons,Bool.and_eq_true]
  exact ⟨zeP hh.1 n,zc9 hh.2 n⟩
 | [],_::_,hh,_=>by cases hh
 |_::_,[],hh,_=>by cases hh
theorem zda {x y:Vly} (hh:zff x y=true):Instr.sameBits 10000 x y=true:=by
 unfold zff at hh
 split at hh
 .rename_i a b
  have h1:=zc9 hh 9999
  have h2:=zeQ hh
  have h3:a.size=b.size:=by rw [<- Array.length_toList,h2,Array.length_toList]
  rw [Instr.sameBits,h3]
  simpa using h1
 .exact zeP hh _

theorem zcO (hT:T.Fits P) (hs:Sim ρ h w) {t:TypeId} {x y k k' v v':Vly} (hxy:VR ρ x y) (hk:VR ρ k k') (hv:VR ρ v v') (hl:zbV T t x k v h=some h') :
 ∃ w',(Instr.mapUpdate t y k' v').run P w=.ok () w'/\Fr ρ ρ h h' w w'/\Sim ρ h' w':=by
 unfold zbV at hl
 split at hl
 .rename_i kt et A hd
  split at hl
  .rename_i es clock hg
   split at hl
   .rename_i hkey
    simp only [Option.bind_eq_some_iff] at hl
    obtain ⟨r,hr,hl⟩:=hl
    have hu:=hT.desc _ _ hd
    obtain ⟨hp,hself⟩:=zbi hkey
    have hkk:k'=k:=hk.eq_plain hp
    subst hkk
    cases hxy with
    |map hA =>
     rename_i L
     have hb:=hs.blk A L hA
     rw [hg] at hb
     obtain ⟨ces,hc,he⟩:=hb
     obtain ⟨r',hf,hfr⟩:=zcf hT w hkey he hr
     have hck:∀ em,(Instr.checkKey em 10000 kt k').run P w=.ok () w:=λem=>zaE hT w em 20 9980 kt k' hself
     have hset:∀ o:Obj,(setObj L.b o).run P w=.ok () (w.putObj L.b o):=by
      intro o
      simp [setObj,Sem.run,hc,World.putObj]
     have hlt:L.b < w.heap.size:=(Array.getElem?_eq_some_iff.1 hc).1
     have hput:∀ (b':Blk) (o:Obj),BlkR ρ (w.putObj L.b o) L (some b')->Fr ρ ρ h (h.set A b') w (w.putObj L.b o)/\Sim ρ (h.set A b') (w.putObj L.b o):=by
      intro b' o hb'
      refine zbm hs hA hg (by simp) (by simp) rfl rfl rfl (by simp [World.putObj]) (λq hq=>?_) hb'
      simp only [World.putObj]
      rw [Array.getElem?_setIfInBounds_ne (Ne.symm hq)]
     have hat:∀ o:Obj,(w.putObj L.b o).heap[L.b]? = some o:=by
      intro o
      simp [World.putObj,hlt]
     cases r with
     |none =>
      cases r' with
      |some q=>exact hfr.elim
      |none =>
       simp only [Option.some.injEq] at hl
       subst hl
       refine ⟨w.putObj L.b (.map (ces.push { key:=k',val:=v',born:=clock }) (clock+1)),?_,hput _ _ ⟨_,hat _,?_⟩⟩
       .simp [Instr.mapUpdate,run_underlying hu,getObj,Sem.run,hc,hck,hf,hset]
       .refine ⟨by simp [he.1],λi a b ha hb=>?_⟩
        have hlen:=he.1
        rw [Array.toList_push] at hb
        rcases Nat.lt_trichotomy i es.length with h1|h1|h1
        .rw [List.getElem?_append_left h1] at ha
         rw [List.getElem?_append_left (by omega)] at hb
         exact he.2 i a b ha hb
        .rw [List.getElem?_append_right (by omega)] at ha
         rw [List.getElem?_append_right (by omega)] at hb
         have e1:i - es.length=0:=by omega
         have e2:i - ces.toList.length=0:=by omega
         rw [e1] at ha
         rw [e2] at hb
         simp at ha hb
         subst ha hb
         exact ⟨.of_plain ρ hp,hv,rfl,hp⟩
        .rw [List.getElem?_append_right (by omega)] at ha
         have:i - es.length=(i - es.length - 1)+1:=by omega
         rw [this] at ha
         simp at ha
     |some q =>
      obtain ⟨i,v1⟩:=q
      cases r' with
      |none=>exact hfr.elim
      |some q' =>
       obtain ⟨j,u1⟩:=q'
       obtain ⟨rfl,_⟩:=hfr
       simp only [Option.bind_eq_some_iff] at hl
       obtain ⟨e,hei,hl⟩:=hl
       split at hl
       .rename_i hsame
        cases hl
        have hil:i < ces.size:=by
         have h1:=(List.getElem?_eq_some_iff.1 hei).1
         have:=he.1
         simp at this
         omega
        obtain ⟨k1,k2,k3,k4⟩:=he.2 i e ces[i] hei (by simp)
        have hke:ces[i].key=e.key:=k1.eq_plain k4
        have hbits:=zda hsame
        refine ⟨w.putObj L.b (.map (ces.modify i λe=>{ e with key:=k',val:=v' }) clock),?_,hput _ _ ⟨_,hat _,?_⟩⟩
        .simp [Instr.mapUpdate,run_underlying hu,getObj,Sem.run,hc,hck,hf,hset,Instr.keyThatStays,hke,hbits,hil]
        .refine ⟨by simp [he.1],λq a b ha hb=>?_⟩
         rw [Array.toList_modify] at hb
         rw [List.getElem?_modify] at ha hb
         by_cases hq:i=q
         .subst hq
          simp only [if_true,Option.map_eq_map,Option.map_eq_some_iff] at ha hb
          obtain ⟨a0,ha0,rfl⟩:=ha
          obtain ⟨b0,hb0,rfl⟩:=hb
          obtain ⟨_,_,h3,_⟩:=he.2 i a0 b0 ha0 hb0
          exact ⟨.of_plain ρ hp,hv,h3,hp⟩
         .simp only [if_neg hq] at ha hb
          exact he.2 q a b (by simpa using ha) (by simpa using hb)
       .cases hl
   .cases hl
  .cases hl
 .cases hl

theorem zb9 (hs:Sim ρ h w) {A:Nat} {L:Loc} {es es':List MapEntry} {ces ces':Array MapEntry} {clock clock':Nat} (hA:ρ A=some L) (hg:h.get A=some (.map es clock)) (hc:w.heap[L.b]? = some (.map ces clock))
 (he:EsR ρ es' ces'.toList):Fr ρ ρ h (h.set A (.map es' clock')) w (w.putObj L.b (.map ces' clock'))/\Sim ρ (h.set A (.map es' clock')) (w.putObj L.b (.map ces' clock')):=by
 have hlt:L.b < w.heap.size:=(Array.getElem?_eq_some_iff.1 hc).1
 refine zbm hs hA hg (by simp) (by simp) rfl rfl rfl (by simp [World.putObj]) (λq hq=>?_) ⟨ces',by simp [World.putObj,hlt],he⟩
 simp only [World.putObj]
 rw [Array.getElem?_setIfInBounds_ne (Ne.symm hq)]

theorem EsR.push {es:List MapEntry} {ces:Array MapEntry} (he:EsR ρ es ces.toList) {k v v':Vly} {clock:Nat} (hp:plain k=true) (hv:VR ρ v v') :
 EsR ρ (es++[{ key:=k,val:=v,born:=clock }]) (ces.push { key:=k,val:=v',born:=clock }).toList:=by
 refine ⟨by simp [he.1],λi a b ha hb=>?_⟩
 have hlen:=he.1
 rw [Array.toList_push] at hb
 rcases Nat.lt_trichotomy i es.length with h1|h1|h1
 .rw [List.getElem?_append_left h1] at ha
  rw [List.getElem?_append_left (by omega)] at hb
  exact he.2 i a b ha hb
 .rw [List.getElem?_append_right (by omega)] at ha
  rw [List.getElem?_append_right (by omega)] at hb
  have e1:i - es.length=0:=by omega
  have e2:i - ces.toList.length=0:=by omega
  rw [e1] at ha
  rw [e2] at hb
  simp at ha hb
  subst ha hb
  exact ⟨.of_plain ρ hp,hv,rfl,hp⟩
 .rw [List.getElem?_append_right (by omega)] at ha
  have:i - es.length=(i - es.length - 1)+1:=by omega
  rw [this] at ha
  simp at ha

theorem EsR.modify {es:List MapEntry} {ces:Array MapEntry} (he:EsR ρ es ces.toList) (i:Nat) {f g:MapEntry->MapEntry}
 (hfg:∀ a b,VR ρ a.key b.key->VR ρ a.val b.val->a.born=b.born->plain a.key=true->VR ρ (f a).key (g b).key/\VR ρ (f a).val (g b).val/\(f a).born=(g b).born/\plain (f a).key=true) :
 EsR ρ (es.modify i f) (ces.modify i g).toList:=by
 refine ⟨by simp [he.1],λq a b ha hb=>?_⟩
 rw [Array.toList_modify] at hb
 rw [List.getElem?_modify] at ha hb
 by_cases hq:i=q
 .subst hq
  simp only [if_true,Option.map_eq_map,Option.map_eq_some_iff] at ha hb
  obtain ⟨a0,ha0,rfl⟩:=ha
  obtain ⟨b0,hb0,rfl⟩:=hb
  obtain ⟨h1,h2,h3,h4⟩:=he.2 i a0 b0 ha0 hb0
  exact hfg a0 b0 h1 h2 h3 h4
 .simp only [if_neg hq] at ha hb
  exact he.2 q a b (by simpa using ha) (by simpa using hb)

theorem zfw (hT:T.Fits P) (hs:Sim ρ h w) {t:TypeId} {x y k k' v:Vly} (hxy:VR ρ x y) (hk:VR ρ k k') (hl:zdo T t x k h=some (v,h')) :
 ∃ u w',(Instr.mapEntry t y k').run P w=.ok u w'/\Fr ρ ρ h h' w w'/\Sim ρ h' w'/\VR ρ v u:=by
 unfold zdo at hl
 split at hl
 .rename_i kt et A hd
  split at hl
  .rename_i es clock hg
   split at hl
   .rename_i hkey
    simp only [Option.bind_eq_some_iff] at hl
    obtain ⟨r,hr,hl⟩:=hl
    have hu:=hT.desc _ _ hd
    obtain ⟨hp,hself⟩:=zbi hkey
    have hkk:k'=k:=hk.eq_plain hp
    subst hkk
    cases hxy with
    |map hA =>
     rename_i L
     have hb:=hs.blk A L hA
     rw [hg] at hb
     obtain ⟨ces,hc,he⟩:=hb
     obtain ⟨r',hf,hfr⟩:=zcf hT w hkey he hr
     have hck:∀ em,(Instr.checkKey em 10000 kt k').run P w=.ok () w:=λem=>zaE hT w em 20 9980 kt k' hself
     have hset:∀ o:Obj,(setObj L.b o).run P w=.ok () (w.putObj L.b o):=by
      intro o
      simp [setObj,Sem.run,hc,World.putObj]
     cases r with
     |none =>
      cases r' with
      |some q=>exact hfr.elim
      |none =>
       simp only [Option.map_eq_some_iff,Prod.mk.injEq] at hl
       obtain ⟨z,hz,rfl,rfl⟩:=hl
       obtain ⟨z1,z2⟩:=zcj (ρ:=ρ) hT hz w
       obtain ⟨f1,f2⟩:=zb9 (clock':=clock+1) hs hA hg hc (he.push (clock:=clock) hp z2)
       refine ⟨_,_,?_,f1,f2,(VRs.cons z2 (.cons (.int .i64 clock) (.nil ρ))).toTuple⟩
       simp [Instr.mapEntry,run_underlying hu,getObj,Sem.run,hc,hck,hf,hset,z1,goInt]
     |some q =>
      obtain ⟨i,v1⟩:=q
      cases r' with
      |none=>exact hfr.elim
      |some q' =>
       obtain ⟨j,u1⟩:=q'
       obtain ⟨rfl,hvu⟩:=hfr
       simp only [Option.bind_eq_some_iff] at hl
       obtain ⟨e,hei,hl⟩:=hl
       split at hl
       .rename_i hsame
        cases hl
        have hil:i < ces.size:=by
         have h1:=(List.getElem?_eq_some_iff.1 hei).1
         have:=he.1
         simp at this
         omega
        obtain ⟨k1,k2,k3,k4⟩:=he.2 i e ces[i] hei (by simp)
        have hke:ces[i].key=e.key:=k1.eq_plain k4
        have hbits:=zda hsame
        obtain ⟨f1,f2⟩:=zb9 (clock':=clock) hs hA hg hc (he.modify i (f:=λe=>{ e with key:=k' }) (g:=λe=>{ e with key:=k' }) (λa b h1 h2 h3 h4=>⟨.of_plain ρ hp,h2,h3,hp⟩))
        refine ⟨_,_,?_,f1,f2,(VRs.cons hvu (.cons (.int .i64 e.born) (.nil ρ))).toTuple⟩
        simp [Instr.mapEntry,run_underlying hu,getObj,Sem.run,hc,hck,hf,hset,Instr.keyThatStays,hke,hbits,hil,goInt,k3]
       .cases hl
   .cases hl
  .cases hl
 .cases hl

theorem zdl {s:Int}:∀ {es ces:List MapEntry} {n i:Nat},(∀ (i:Nat) a b,es[i]? = some a->ces[i]? = some b->a.born=b.born)->es.length=ces.length->zgx s es n=some i->n<=i/\ces.findIdx? (λe=>(e.born:Int) == s)=some (i - n)
 | [],_,_,_,_,_,h=>by cases h
 |a::es,[],_,_,_,hl,_=>by cases hl
 |a::es,b::ces,n,i,hb,hl,h=>by
  have h0:=hb 0 a b rfl rfl
  rw [zgx] at h
  rw [List.findIdx?_cons]
  split at h
  .rename_i hc
   cases h
   rw [h0] at hc
   simp [hc]
  .rename_i hc
   rw [h0] at hc
   obtain ⟨h1,h2⟩:=zdl (es:=es) (ces:=ces) (λi a b ha hb'=>hb (i+1) a b (by simpa using ha) (by simpa using hb')) (by simpa using hl) h
   refine ⟨by omega,?_⟩
   have:¬ ((b.born:Int) == s)=true:=by simpa using hc
   rw [if_neg this,h2]
   simp
   omega

theorem zcS (hs:Sim ρ h w) {t:TypeId} {x y s s' v v':Vly} (hxy:VR ρ x y) (hss:VR ρ s s') (hv:VR ρ v v') (hl:zaI x s v h=some h') :
 ∃ w',(Instr.entryStore t y s' v').run P w=.ok () w'/\Fr ρ ρ h h' w w'/\Sim ρ h' w':=by
 unfold zaI at hl
 split at hl
 .rename_i A kd b
  split at hl
  .rename_i es clock hg
   simp only [Option.map_eq_some_iff] at hl
   obtain ⟨i,hi,rfl⟩:=hl
   cases hss
   cases hxy with
   |map hA =>
    rename_i L
    have hb:=hs.blk A L hA
    rw [hg] at hb
    obtain ⟨ces,hc,he⟩:=hb
    have hset:∀ o:Obj,(setObj L.b o).run P w=.ok () (w.putObj L.b o):=by
     intro o
     simp [setObj,Sem.run,hc,World.putObj]
    obtain ⟨_,hfi⟩:=zdl (ces:=ces.toList) (λi a b ha hb=>(he.2 i a b ha hb).2.2.1) he.1 hi
    have hfi':ces.findIdx? (λe=>(e.born:Int) == b)=some i:=by
     cases ces with|mk l=>simpa using hfi
    obtain ⟨f1,f2⟩:=zb9 (clock':=clock) hs hA hg hc (he.modify i (f:=λe=>{ e with val:=v }) (g:=λe=>{ e with val:=v' }) (λa b h1 h2 h3 h4=>⟨h1,hv,h3,h4⟩))
    refine ⟨_,?_,f1,f2⟩
    simp [Instr.entryStore,getObj,Sem.run,hc,hset,asInt,asIntOf,hfi']
  .cases hl
 .cases hl

theorem zdJ (hT:T.Fits P) (hs:Sim ρ h w) (hfree:Free ρ h h') {t:TypeId} {x y v:Vly} (hxy:VR ρ x y) (hl:zbs T t x h=some (v,h')) :
 ∃ ρ' u w',(Instr.range t y).run P w=.ok u w'/\Fr ρ ρ' h h' w w'/\Sim ρ' h' w'/\VR ρ' v u:=by
 unfold zbs at hl
 split at hl
 .rename_i kt et A hd
  split at hl
  .rename_i es clock hg
   cases hl
   cases hxy with
   |map hA =>
    rename_i M
    have hb:=hs.blk A M hA
    rw [hg] at hb
    obtain ⟨ces,hc,_⟩:=hb
    have hal:∀ o:Obj,(w.alloc o).heap=w.heap.push o:=λ_=>rfl
    obtain ⟨ρ',h1,h2,h3⟩:=zbr (W:=w.alloc (.mapIter (some M.b) clock #[] clock)) (L:=⟨w.heap.size,0,0⟩) (b:=.iter A clock [] clock) hs (hfree _ (Nat.le_refl _) (Nat.lt_succ_self _))
     (λk hk=>by rw [hal,Array.getElem?_push,if_neg (by omega)]) (by rw [hal];simp) rfl rfl rfl (Nat.le_refl _)
     (λρ' hg'=>⟨rfl,M,hg' _ _ hA,by rw [hal];simp⟩)
    refine ⟨ρ',_,_,?_,h2,h3,.ptr (o:=0) h1⟩
    have hgo:(getObj M.b).run P w=.ok (.map ces clock) w:=by simp [getObj,Sem.run,hc]
    simp [Instr.range,run_underlying (hT.desc _ _ hd),hgo]
  .cases hl
 .cases hl
theorem EsR.one_of {e:MapEntry} {ces:Array MapEntry} (he:EsR ρ [e] ces.toList):∃ c,ces=#[c]/\VR ρ e.key c.key/\VR ρ e.val c.val/\e.born=c.born:=by
 obtain ⟨c,m',hm,h1,h2,h3,_,h5⟩:=he.of_cons
 obtain rfl:=h5.of_nil
 exact ⟨c,by apply Array.ext';simpa using hm,h1,h2,h3⟩
theorem EsR.no_of {ces:Array MapEntry} (he:EsR ρ [] ces.toList):ces=#[]:=by
 have:=he.of_nil
 apply Array.ext';simpa using this
theorem zef (hs:Sim ρ h w) {ty:TypeId} {x y v:Vly} (hxy:VR ρ x y) (hl:zbR x h=some (v,h')) :
 ∃ u w',(Instr.next y false ty).run P w=.ok u w'/\Fr ρ ρ h h' w w'/\Sim ρ h' w'/\VR ρ v u:=by
 unfold zbR at hl
 split at hl
 .rename_i R
  split at hl
  .rename_i A since seen last hr
   cases hxy with
   |ptr hR =>
    rename_i L
    have hb:=hs.blk R L hR
    rw [hr] at hb
    obtain ⟨h0,M,hA,hit⟩:=hb
    have hrun:(getObj L.b).run P w=.ok (.mapIter (some M.b) since seen.toArray last) w:=by simp [getObj,Sem.run,hit]
    have hmb:=hs.blk A M hA
    have hset:∀ o:Obj,(setObj L.b o).run P w=.ok () (w.putObj L.b o):=by
     intro o
     simp [setObj,Sem.run,hit,World.putObj]
    split at hl
    .rename_i clock hg
     cases hl
     rw [hg] at hmb
     obtain ⟨ces,hc,he⟩:=hmb
     obtain rfl:=he.no_of
     have hgm:(getObj M.b).run P w=.ok (.map #[] clock) w:=by simp [getObj,Sem.run,hc]
     refine ⟨.tuple #[.bool false],w,?_,.refl _ _ _,hs,(VRs.cons (.bool false) (.nil ρ)).toTuple⟩
     simp [Instr.next,h0,hrun,hgm,choose,Sem.run,Question.forced]
    .rename_i e clock hg
     rw [hg] at hmb
     obtain ⟨ces,hc,he⟩:=hmb
     obtain ⟨c,rfl,hk,hv,hbn⟩:=he.one_of
     have hgm:(getObj M.b).run P w=.ok (.map #[c] clock) w:=by simp [getObj,Sem.run,hc]
     split at hl
     .rename_i hlt
      cases hl
      have hlt2:L.b < w.heap.size:=(Array.getElem?_eq_some_iff.1 hit).1
      obtain ⟨f1,f2⟩:=zbm (W:=w.putObj L.b (.mapIter (some M.b) since #[c.born] clock)) (b':=.iter A since [e.born] clock) hs hR hr (by simp) (by simp) rfl rfl rfl (by simp [World.putObj]) (λq hq=>by simp only [World.putObj];rw [Array.getElem?_setIfInBounds_ne (Ne.symm hq)]) ⟨h0,M,hA,by simp [World.putObj,hlt2,hbn]⟩
      refine ⟨.tuple #[.bool true,c.key,c.val],_,?_,f1,f2,(VRs.cons (.bool true) (.cons hk (.cons hv (.nil ρ)))).toTuple⟩
      have hlt3:c.born < since:=by rw [<- hbn];exact hlt
      have hnge:¬ since<=c.born:=by omega
      simp [Instr.next,h0,hrun,hgm,hset,choose,Sem.run,Question.forced,hlt3,hnge]
     .cases hl
    .rename_i e clock s hg
     rw [hg] at hmb
     obtain ⟨ces,hc,he⟩:=hmb
     obtain ⟨c,rfl,hk,hv,hbn⟩:=he.one_of
     have hgm:(getObj M.b).run P w=.ok (.map #[c] clock) w:=by simp [getObj,Sem.run,hc]
     split at hl
     .rename_i hcond
      cases hl
      have h1:c.born=s:=by rw [<- hbn];exact hcond.1.symm
      have h2:¬ last<=c.born:=by rw [<- hbn];omega
      refine ⟨.tuple #[.bool false],w,?_,.refl _ _ _,hs,(VRs.cons (.bool false) (.nil ρ)).toTuple⟩
      subst h1
      simp [Instr.next,h0,hrun,hgm,choose,Sem.run,Question.forced,h2]
     .cases hl
    .cases hl
  .cases hl
 .cases hl
theorem zdp (hs:Sim ρ h w) {x y v:Vly} (hxy:VR ρ x y) (hl:zb5 x h=some v) :
 ∃ u,(Instr.entry y).run P w=.ok u w/\VR ρ v u:=by
 unfold zb5 at hl
 split at hl
 .rename_i R
  split at hl
  .rename_i A since s last hr
   cases hxy with
   |ptr hR =>
    rename_i L
    have hb:=hs.blk R L hR
    rw [hr] at hb
    obtain ⟨h0,M,hA,hit⟩:=hb
    have hrun:(getObj L.b).run P w=.ok (.mapIter (some M.b) since #[s] last) w:=by simp [getObj,Sem.run,hit]
    have hmb:=hs.blk A M hA
    split at hl
    .rename_i e clock hg
     rw [hg] at hmb
     obtain ⟨ces,hc,he⟩:=hmb
     obtain ⟨c,rfl,hk,hv,hbn⟩:=he.one_of
     have hgm:(getObj M.b).run P w=.ok (.map #[c] clock) w:=by simp [getObj,Sem.run,hc]
     split at hl
     .rename_i hcond
      cases hl
      obtain ⟨rfl,h1⟩:=hcond
      have h2:c.born=s:=by rw [<- hbn];exact h1
      subst h2
      refine ⟨.tuple #[c.key,c.val],?_,(VRs.cons hk (.cons hv (.nil ρ))).toTuple⟩
      simp [Instr.entry,h0,hrun,hgm]
     .cases hl
    .cases hl
  .cases hl
 .cases hl
end
end Go.Am
namespace Go.Am
open Go.RowKit
section
variable {P:Program} {T:Tab} {ρ:Rho} {h h':Heap} {w:World}

theorem EsR.eraseIdx {l m:List MapEntry} (hl:EsR ρ l m) (i:Nat):EsR ρ (l.eraseIdx i) (m.eraseIdx i):=by
 have hlen:=hl.1
 refine ⟨by rw [List.length_eraseIdx,List.length_eraseIdx,hlen],λj x y hx hy=>?_⟩
 rw [List.getElem?_eraseIdx] at hx hy
 split at hx
 .rename_i hj;rw [if_pos hj] at hy;exact hl.2 j x y hx hy
 .rename_i hj;rw [if_neg hj] at hy;exact hl.2 (j+1) x y hx hy

theorem zeX (hT:T.Fits P) (hs:Sim ρ h w) {t ty:TypeId} {ts:List TypeId} {x y k k':Vly} (hxy:VR ρ x y) (hk:VR ρ k k') (hl:zcs T t x k h=some h') :
 ∃ w',(Builtin.delete_ (t::ts).toArray ty #[y,k']).run P w=.ok (.tuple #[]) w'/\Fr ρ ρ h h' w w'/\Sim ρ h' w':=by
 unfold zcs at hl
 split at hl
 .rename_i kt et hd
  split at hl
  .rename_i hkey
   cases hl
   obtain ⟨hp,hself⟩:=zbi hkey
   have hkk:k'=k:=hk.eq_plain hp
   subst hkk
   cases hxy
   refine ⟨w,?_,Fr.refl _ _ _,hs⟩
   have hck:∀ em,(Instr.checkKey em 10000 kt k').run P w=.ok () w:=λem=>zaE hT w em 20 9980 kt k' hself
   simp [Builtin.delete_,run_underlying (hT.desc _ _ hd),hck]
  .cases hl
 .rename_i kt et A hd
  split at hl
  .rename_i es clock hg
   split at hl
   .rename_i hkey
    simp only [Option.bind_eq_some_iff] at hl
    obtain ⟨r,hr,hl⟩:=hl
    have hu:=hT.desc _ _ hd
    obtain ⟨hp,hself⟩:=zbi hkey
    have hkk:k'=k:=hk.eq_plain hp
    subst hkk
    cases hxy with
    |map hA =>
     rename_i L
     have hb:=hs.blk A L hA
     rw [hg] at hb
     obtain ⟨ces,hc,he⟩:=hb
     obtain ⟨r',hf,hfr⟩:=zcf hT w hkey he hr
     have hck:∀ em,(Instr.checkKey em 10000 kt k').run P w=.ok () w:=λem=>zaE hT w em 20 9980 kt k' hself
     have hget:(getObj L.b).run P w=.ok (.map ces clock) w:=by simp [getObj,Sem.run,hc]
     have hset:∀ o:Obj,(setObj L.b o).run P w=.ok () (w.putObj L.b o):=by
      intro o
      simp [setObj,Sem.run,hc,World.putObj]
     have hlt:L.b < w.heap.size:=(Array.getElem?_eq_some_iff.1 hc).1
     have hput:∀ (b':Blk) (o:Obj),BlkR ρ (w.putObj L.b o) L (some b')->Fr ρ ρ h (h.set A b') w (w.putObj L.b o)/\Sim ρ (h.set A b') (w.putObj L.b o):=by
      intro b' o hb'
      refine zbm hs hA hg (by simp) (by simp) rfl rfl rfl (by simp [World.putObj]) (λq hq=>?_) hb'
      simp only [World.putObj]
      rw [Array.getElem?_setIfInBounds_ne (Ne.symm hq)]
     have hat:∀ o:Obj,(w.putObj L.b o).heap[L.b]? = some o:=by
      intro o
      simp [World.putObj,hlt]
     cases r with
     |none =>
      cases r' with
      |some q=>exact hfr.elim
      |none =>
       cases hl
       refine ⟨w.putObj L.b (.map ces clock),?_,hput _ _ ⟨_,hat _,he⟩⟩
       simp [Builtin.delete_,run_underlying hu,hget,hck,hf,hset]
     |some q =>
      obtain ⟨i,v1⟩:=q
      cases r' with
      |none=>exact hfr.elim
      |some q' =>
       obtain ⟨j,u1⟩:=q'
       obtain ⟨rfl,_⟩:=hfr
       cases hl
       refine ⟨w.putObj L.b (.map (ces.eraseIdxIfInBounds i) clock),?_,hput _ _ ⟨_,hat _,?_⟩⟩
       .simp [Builtin.delete_,run_underlying hu,hget,hck,hf,hset]
       .have e1:(ces.eraseIdxIfInBounds i).toList=ces.toList.eraseIdx i:=by simp
        rw [e1]
        exact he.eraseIdx i
   .cases hl
  .cases hl
 .cases hl

theorem zfJ (hT:T.Fits P) {t:TypeId} {x y v:Vly} (hxy:VR ρ x y) (hi:zfI T t x=some v) (w:World):∃ u,(Instr.makeInterface t y).run P w=.ok u w/\VR ρ v u:=by
 unfold zfI at hi
 split at hi
 .cases hi
 .rename_i d hne hd
  cases hi
  refine ⟨.iface t y,?_,.iface t hxy⟩
  have:=hT.desc _ _ hd
  simp only [Instr.makeInterface,Sem.run_bind,run_underlying this,Result.andThen_ok]
  cases d <;> first|rfl|exact (hne _ rfl).elim
 .cases hi

theorem zgH (hT:T.Fits P) {t:TypeId} {v:Vly} (hz:T.zero t=some v) (w:World):(zeroValue t).run P w=.ok v w:=(zcj (ρ:=λ_=>none) hT hz w).1

theorem zeU (hT:T.Fits P) {t xt:TypeId} {x y v:Vly} {ok:Bool} (hxy:VR ρ x y) (hi:zdk T x t ok=some v) (w:World):∃ u,(Instr.typeAssert y xt t ok).run P w=.ok u w/\VR ρ v u:=by
 unfold zdk at hi
 split at hi
 .cases hi
 .rename_i d hne hd
  have hu:=hT.desc _ _ hd
  have hni:∀ ms,d≠.interface ms:=λms e=>hne ms e
  have hfail:∀ z,T.zero t=some z->VR ρ (.tuple #[z,.bool false]) (.tuple #[z,.bool false]):=λz hz=>(VRs.cons (zcj (ρ:=ρ) hT hz w).2 (.cons (.bool false) (.nil ρ))).toTuple
  split at hi
  .rename_i t' v'
   cases hxy with
   |iface _ hxy =>
    rename_i y'
    split at hi
    .rename_i e
     subst e
     cases hi
     refine ⟨if ok then .tuple #[y',.bool true] else y',?_,?_⟩
     .simp only [Instr.typeAssert,Sem.run_bind,run_underlying hu,Result.andThen_ok]
      cases d <;> first|(exact (hni _ rfl).elim)|simp
     .cases ok
      .exact hxy
      .exact (VRs.cons hxy (.cons (.bool true) (.nil ρ))).toTuple
    .rename_i e
     split at hi
     .rename_i hok
      simp only [Option.map_eq_some_iff] at hi
      obtain ⟨z,hz,rfl⟩:=hi
      refine ⟨_,?_,hfail z hz⟩
      simp only [Instr.typeAssert,Sem.run_bind,run_underlying hu,Result.andThen_ok]
      cases d <;> first|(exact (hni _ rfl).elim)|simp [e,hok,zgH hT hz]
     .cases hi
  .cases hxy
   split at hi
   .rename_i hok
    simp only [Option.map_eq_some_iff] at hi
    obtain ⟨z,hz,rfl⟩:=hi
    refine ⟨_,?_,hfail z hz⟩
    simp only [Instr.typeAssert,Sem.run_bind,run_underlying hu,Result.andThen_ok]
    cases d <;> first|(exact (hni _ rfl).elim)|simp [hok,zgH hT hz]
   .cases hi
  .cases hi
 .cases hi

def zgw (ρ:Rho):PlaceA->Place->Prop
 | .val v,.val u=>VR ρ v u
 | .var p,.var a=>VR ρ p (.pointer (some a))
 |_,_=>False

theorem zcJ (hT:T.Fits P) (hs:Sim ρ h w) {t:TypeId} {p v:Vly} {a:Addr} (hp:VR ρ p (.pointer (some a))) (hl:zb1 T t p h=some v):∃ u,(loadVar t a).run P w=.ok u w/\VR ρ v u:=by
 obtain ⟨u,h1,h2⟩:=zcx hT hs hp hl
 refine ⟨u,?_,h2⟩
 rw [<- h1]
 simp [Instr.loadAt,Instr.sureAddr]
theorem zcK (hT:T.Fits P) (hs:Sim ρ h w) {t:TypeId} {x:PlaceA} {y:Place} {v:Vly} (hxy:zgw ρ x y) (hg:x.get T t h=some v):∃ u,(y.get t).run P w=.ok u w/\VR ρ v u:=by
 cases x with
 |val v' =>
  cases y with
  |val u=>cases hg;exact ⟨u,rfl,hxy⟩
  |var a=>exact hxy.elim
 |var p =>
  cases y with
  |val u=>exact hxy.elim
  |var a=>exact zcJ hT hs hxy hg
theorem zg9 {p u:Vly} {s:TypeId} {f:Nat} {q:Vly} (hp:VR ρ p u) (hf:zat T s p f=some q):∃ a,u=.pointer (some a)/\(asAddr u).run P w=.ok a w:=by
 unfold zat at hf
 split at hf
 .cases hp with
  |ptr hA=>exact ⟨_,rfl,by simp [asAddr]⟩
 .cases hf
theorem zbW (hT:T.Fits P) {s:TypeId} {fs:Array Field} {p q:Vly} {a:Addr} {i:Nat} {f:Field} (hd:T.desc s=some (.struct fs)) (hi:fs[i]? = some f) (hp:VR ρ p (.pointer (some a))) (hf:zat T s p i=some q) :
 ∃ a',(fieldPlace a f).run P w=.ok a' w/\VR ρ q (.pointer (some a')):=by
 unfold zat at hf
 rw [hd] at hf
 split at hf
 .rename_i fs' A o e1
  cases e1
  simp only [Option.bind_eq_some_iff] at hf
  obtain ⟨fl,hfl,n,hn,hf⟩:=hf
  rw [hi] at hfl
  cases hfl
  split at hf
  .cases hf
  .rename_i h0
   cases hf
   cases hp with
   |ptr hA =>
    rename_i L
    refine ⟨⟨L.b,L.s+(o+f.offset),none⟩,?_,.ptr hA⟩
    simp [fieldPlace,zam hT hn,h0,Addr.add_mid,Nat.add_assoc]
 .cases hf

theorem zbf (hT:T.Fits P) (hs:Sim ρ h w):∀ (l:List FieldStep) (t:TypeId) (x:PlaceA) (y:Place) (r:TypeId × PlaceA),zgw ρ x y->zcW T h l t x=some r->∃ y',(follow l t y).run P w=.ok (r.1,y') w/\zgw ρ r.2 y'
 | [],t,x,y,r,hxy,hf=>by cases hf;exact ⟨y,by simp [follow],hxy⟩
 |s::l,t,x,y,r,hxy,hf=>by
  simp only [zcW] at hf
  split at hf
  .rename_i fs hd
   simp only [Option.bind_eq_some_iff] at hf
   obtain ⟨f,hi,hf⟩:=hf
   have hu:=hT.desc _ _ hd
   split at hf
   .rename_i hde
    simp only [Option.bind_eq_some_iff] at hf
    obtain ⟨p,hp,q,hq,hf⟩:=hf
    obtain ⟨u,h1,h2⟩:=zcK hT hs hxy hp
    obtain ⟨a,rfl,h3⟩:=zg9 (P:=P) (w:=w) h2 hq
    obtain ⟨a',h4,h5⟩:=zbW (P:=P) (w:=w) hT hd hi h2 hq
    obtain ⟨y',h6,h7⟩:=zbf hT hs l _ (.var q) (.var a') r h5 hf
    refine ⟨y',?_,h7⟩
    simp only [follow,Sem.run_bind,run_underlying hu,Result.andThen_ok,hi,hde,if_true,h1,h3,h4,h6]
   .rename_i hde
    split at hf
    .rename_i p
     simp only [Option.bind_eq_some_iff] at hf
     obtain ⟨q,hq,hf⟩:=hf
     cases y with
     |val u=>exact hxy.elim
     |var a =>
      obtain ⟨a',h4,h5⟩:=zbW (P:=P) (w:=w) hT hd hi hxy hq
      obtain ⟨y',h6,h7⟩:=zbf hT hs l _ (.var q) (.var a') r h5 hf
      refine ⟨y',?_,h7⟩
      simp only [follow,Sem.run_bind,run_underlying hu,Result.andThen_ok,hi,hde,Bool.false_eq_true,if_false,h4,h6]
    .rename_i cs
     simp only [Option.bind_eq_some_iff] at hf
     obtain ⟨v,hv,hf⟩:=hf
     cases y with
     |var a=>exact hxy.elim
     |val u =>
      cases hxy with
      |agg hc hh =>
       rename_i ds
       obtain ⟨vc,h4,h5⟩:=zdE (ds:=ds) hT (VR.agg hc hh).aggs hv w
       obtain ⟨y',h6,h7⟩:=zbf hT hs l _ (.val v) (.val vc) r h5 hf
       refine ⟨y',?_,h7⟩
       simp only [follow,Sem.run_bind,run_underlying hu,Result.andThen_ok,hi,hde,Bool.false_eq_true,if_false,h4,h6]
    .cases hf
  .cases hf

theorem zdM (hT:T.Fits P) (hs:Sim ρ h w) {xt:TypeId} {x:PlaceA} {y:Place} {ptr:Bool} {v:Vly} (hxy:zgw ρ x y) (hr:zdL T xt x ptr h=some v) (wr:Option String):∃ u,(receiverAt xt y ptr wr).run P w=.ok u w/\VR ρ v u:=by
 unfold zdL at hr
 split at hr
 .rename_i e hd
  obtain ⟨u,h1,h2⟩:=zcK hT hs hxy hr
  refine ⟨u,?_,h2⟩
  simp only [receiverAt,Sem.run_bind,run_underlying (hT.desc _ _ hd),Result.andThen_ok,h1]
 .rename_i elem hd
  simp only [Option.bind_eq_some_iff] at hr
  obtain ⟨p,hp,hr⟩:=hr
  obtain ⟨u,h1,h2⟩:=zcK hT hs hxy hp
  have hpu:∃ a,u=.pointer (some a):=by
   unfold zb1 at hr
   split at hr
   .cases h2 with
    |ptr hA=>exact ⟨_,rfl⟩
   .cases hr
  obtain ⟨a,rfl⟩:=hpu
  obtain ⟨u',h3,h4⟩:=zcJ hT hs h2 hr
  refine ⟨u',?_,h4⟩
  simp only [receiverAt,Sem.run_bind,run_underlying (hT.desc _ _ hd),Result.andThen_ok,h1]
  cases wr with
  |none=>simp [asAddr,h3]
  |some nm =>
   have hw:(Builtin.ssaWrapNilChk_ #[xt] xt #[.pointer (some a),strVal "",strVal nm]).run P w=.ok (.pointer (some a)) w:=rfl
   simp [hw,asAddr,h3]
 .rename_i d p hne hd
  split at hr
  .rename_i a
   cases hr
   cases y with
   |val u=>exact hxy.elim
   |var a' =>
    refine ⟨.pointer (some a'),?_,hxy⟩
    simp only [receiverAt,Sem.run_bind,run_underlying (hT.desc _ _ hd),Result.andThen_ok]
    cases d <;> first|rfl|exact (hne _ rfl).elim
  .cases hr
 .rename_i d hne hd
  obtain ⟨u,h1,h2⟩:=zcK hT hs hxy hr
  refine ⟨u,?_,h2⟩
  simp only [receiverAt,Sem.run_bind,run_underlying (hT.desc _ _ hd),Result.andThen_ok]
  cases d <;> first|exact h1|exact (hne _ rfl).elim
 .cases hr

theorem zfa (hT:T.Fits P) (hs:Sim ρ h w) {t:TypeId} {v u r:Vly} {name:String} {f:FuncId} (hv:VR ρ v u) (hm:zcZ T t v name h=some (f,r)) (fuel:Nat):∃ r',(method (fuel+1) t u name).run P w=.ok (f,r') w/\VR ρ r r':=by
 unfold zcZ at hm
 simp only [Option.bind_eq_some_iff,Prod.exists] at hm
 obtain ⟨m,hm1,xt,x,hf,hm⟩:=hm
 obtain ⟨i,hi,hfind⟩:=hT.meth _ _ _ hm1
 obtain ⟨y,h1,h2⟩:=zbf hT hs m.path.toList t (.val v) (.val u) (xt,x) hv hf
 split at hm
 .rename_i f' ptr hfn
  simp only [Option.map_eq_some_iff,Prod.mk.injEq] at hm
  obtain ⟨r1,hr,rfl,rfl⟩:=hm
  obtain ⟨r',h3,h4⟩:=zdM hT hs h2 hr (if m.path.isEmpty then some ((name.splitOn ".").getLastD name) else none)
  refine ⟨r',?_,h4⟩
  have hti:(typeInfo t).run P w=.ok i w:=by simp [typeInfo,hi]
  simp only [method,Sem.run_bind,hti,Result.andThen_ok,hfind,h1,hfn,h3,Sem.run_pure]
 .cases hm

theorem zgK (hT:T.Fits P) {t ty:TypeId} {x y v:Vly} (hxy:VR ρ x y) (hc:capA T t x=some v) (ts:List TypeId) (w:World):∃ u,(Builtin.cap_ (t::ts).toArray ty #[y]).run P w=.ok u w/\VR ρ v u:=by
 unfold capA at hc
 split at hc
 .rename_i e a n c hd
  split at hc
  .rename_i hlt
   cases hc
   have key:∃ a' n',y=.slice a' n' c:=by
    cases hxy with
    |sliceNil=>exact ⟨_,_,rfl⟩
    |slice=>exact ⟨_,_,rfl⟩
    |sliceG h1 h2=>omega
   obtain ⟨a',n',rfl⟩:=key
   exact ⟨_,by simp [Builtin.cap_,run_underlying (hT.desc _ _ hd),goInt],.int _ _⟩
  .cases hc
 .cases hc

theorem zey:∀ (l m:List Vly) (bs:List UInt8),VRs ρ l m->zfm l=some bs->∃ ns:List Int,m=ns.map (Value.int .u8)/\bs=ns.map λn=>UInt8.ofNat n.toNat
 | [],m,bs,hv,hb=>by
  rw [hv.of_nil]
  cases hb
  exact ⟨[],rfl,rfl⟩
 |x::l,m,bs,hv,hb=>by
  obtain ⟨y,m',rfl,h1,h2⟩:=hv.of_cons
  cases x with
  |int k n =>
   cases k <;> simp only [zfm] at hb <;> try cases hb
   simp only [Option.map_eq_some_iff] at hb
   obtain ⟨bs',hb',rfl⟩:=hb
   cases h1
   obtain ⟨ns,rfl,rfl⟩:=zey l m' bs' h2 hb'
   exact ⟨n::ns,rfl,rfl⟩
  |_=>simp [zfm] at hb

theorem zeb (hT:T.Fits P) (hs:Sim ρ h w) {s d:TypeId} {x y v:Vly} (hxy:VR ρ x y) (hb:zcC T s d x h=some v):∃ u,(convert s d y).run P w=.ok u w/\VR ρ v u:=by
 unfold zcC at hb
 split at hb
 .rename_i e a n c hsd hdd
  split at hb
  .rename_i hed
   simp only [Option.bind_eq_some_iff,Option.map_eq_some_iff] at hb
   obtain ⟨l,hl,bs,hbs,rfl⟩:=hb
   obtain ⟨a',c',m,rfl,hv,hlen,hrun⟩:=zb4 (P:=P) hs hxy hl
   obtain ⟨ns,rfl,rfl⟩:=zey l m bs hv hbs
   refine ⟨_,?_,.string _⟩
   rw [run_convert_bytes_string w s d e a' n c' (hT.desc _ _ hsd) (hT.desc _ _ hed) (hT.desc _ _ hdd)]
   cases a' with
   |none =>
    have hn:n=0:=by cases hxy;rfl
    subst hn
    have:ns=[]:=by simpa using hlen
    subst this
    rfl
   |some ad =>
    have h1:=hrun w rfl n (Nat.le_refl _)
    have h2:(loadCells ad n).run P w=.ok (ns.map (Value.int .u8)).toArray w:=by
     have h3:(Builtin.firstCells 1 n (.slice (some ad) n c'))=loadCells ad (n*1):=rfl
     rw [h3,Nat.mul_one] at h1
     rw [h1]
     congr 2
     exact List.take_of_length_le (by rw [hlen,Nat.mul_one];exact Nat.le_refl _)
    rw [run_bytesToString w ad n c' ns h2,foldl_push_bytes]
    simp
  .cases hb
 .cases hb

theorem zew (hT:T.Fits P) (hs:Sim ρ h w) (hfree:Free ρ h h') {s d:TypeId} {x y v:Vly} (hsrc:zcH T s=true) (hx:VR ρ x y) (hl:zbU T d x h=some (v,h')) :
 ∃ ρ' u w',(convert s d y).run P w=.ok u w'/\Fr ρ ρ' h h' w w'/\Sim ρ' h' w'/\VR ρ' v u:=by
 have hus:P.underlying s=some .string:=by
  unfold zcH at hsrc
  split at hsrc
  .rename_i hd;exact hT.desc _ _ hd
  .cases hsrc
 unfold zbU at hl
 split at hl
 .rename_i e b hd
  split at hl
  .rename_i by' z he hi
   split at hl
   .cases hl
   .rename_i hsz0
    have hsz:¬ b.size > 1152921504606846976:=λg=>hsz0 (.inl g)
    have hbt:e=zhQ:=Decidable.byContradiction λg=>hsz0 (.inr g)
    cases hl
    cases hx
    have hrun:=Lib.run_convert_string_bytes w s d e b hus (hT.desc _ _ hd) (hT.desc _ _ he)
    have hge:=grownCap_ge w b.size 0 e
    have hle:=grownCap_le_maxLen w b.size 0 e (by unfold maxLen;omega)
    have hcs:(Lib.bytesCells w e b).size=grownCap w b.size 0 e:=by
     have hbs:b.data.size=b.size:=rfl
     simp only [Lib.bytesCells,Array.size_append,Array.size_map,Array.size_replicate,hbs]
     omega
    have hW:(Lib.bytesWorld w e b).heap=w.heap.push (.cells (Lib.bytesCells w e b) e ((Lib.bytesCells w e b).size,(Lib.bytesCells w e b).size+1)):=by
     apply Array.ext_getElem?
     intro j
     rw [Array.getElem?_push]
     by_cases hj:j=w.heap.size
     .rw [if_pos hj,hj,Lib.bytesWorld_at_new]
     .rw [if_neg hj]
      by_cases hj2:j < w.heap.size
      .exact Lib.bytesWorld_at_old w e b j hj2
      .rw [Array.getElem?_eq_none (by rw [Lib.bytesWorld_size];omega),Array.getElem?_eq_none (by omega)]
    have hoc:=zfc (k:=1) (q:=b.size) (by omega) (by unfold G;omega)
    obtain ⟨ρ',hρ,hfr,hsim⟩:=zdH (W:=Lib.bytesWorld w e b) (cs:=b.data.toList.map λu=>Value.int .u8 u.toNat) (m:=b.data.toList.map λu=>Value.int .u8 u.toNat) hs (hfree _ (Nat.le_refl _) (by rw [Heap.size_push];omega))
     (fz:=((Lib.bytesCells w e b).size,(Lib.bytesCells w e b).size+1)) ⟨by intro j hj hh;have:=hh.1;simp at this;omega,.inl hbt⟩ hW
     (by simp [Lib.bytesWorld,World.freeze,World.alloc,World.drew,-World.alloc_eq,-World.drew_eq]) (by simp [Lib.bytesWorld,World.freeze,World.alloc,World.drew,-World.alloc_eq,-World.drew_eq]) (by simp [Lib.bytesWorld,World.freeze,World.alloc,World.drew,-World.alloc_eq,-World.drew_eq])
     (by refine zbv ?_ (by simp) λj hj=>?_
         .simp [Lib.bytesCells]
         .simp only [List.length_map,Array.length_toList] at hj
          rw [Nat.zero_add]
          simp only [Lib.bytesCells,Array.toList_append,Array.toList_map]
          rw [List.getElem?_append_left (by simpa using hj)])
     (by refine ⟨rfl,λj a c ha hc=>?_⟩
         rw [ha] at hc
         cases hc
         rw [List.getElem?_map,Option.map_eq_some_iff] at ha
         obtain ⟨q,_,rfl⟩:=ha
         exact .int .u8 _)
    refine ⟨ρ',_,_,hrun,hfr,hsim,?_⟩
    refine .sliceG hρ hoc.1 (by rw [hoc.2.1];exact hge) (by rw [hoc.2.1];exact Nat.le_refl _) (by rw [hoc.2.2];omega) hle (λ_=>⟨by simp,?_⟩)
    rw [hoc.2.2]
    show 0+0+grownCap w b.size 0 e*1<=(Lib.bytesCells w e b).size
    rw [hcs]
    omega
  .cases hl
 .cases hl
end
end Go.Am
namespace Go.Am
open Go.RowKit

section
variable {P:Program} {T:Tab} {ρ:Rho} {h h':Heap} {w:World}

theorem EnvR.put {e:Env} {a:Act} (he:EnvR ρ e a.tmps) {v u:Vly} (hv:VR ρ v u) (d:Option Tmp):EnvR ρ (Am.put e d v) (a.put d u).tmps:=by
 cases d with
 |none=>exact he
 |some d =>
  refine ⟨by simp [Am.put,Act.put,Env.length_set,he.1],λi=>?_⟩
  simp only [Am.put,Act.put,Env.get_set]
  by_cases hi:i=d/\d < e.length
  .rw [if_pos hi]
   obtain ⟨rfl,hlt⟩:=hi
   have:(a.tmps.setIfInBounds i u).getD i undef=u:=by
    have hlt':i < a.tmps.size:=by rw [<- he.1];exact hlt
    simp [hlt']
   rw [this]
   exact hv
  .rw [if_neg hi]
   have:(a.tmps.setIfInBounds d u).getD i undef=a.tmps.getD i undef:=by
    by_cases hid:d=i
    .subst hid
     have:¬ d < a.tmps.size:=by rw [<- he.1];exact λhlt=>hi ⟨rfl,hlt⟩
     simp [this]
    .simp [Array.getElem?_setIfInBounds_ne hid]
   rw [this]
   exact he.2 i

theorem EnvR.operand {e:Env} {a:Act} (he:EnvR ρ e a.tmps) {x:Operand} (hx:OkX ρ x):VR ρ (zaa e x) (a.eval x):=by
 cases x with
 |tmp t=>exact he.2 t
 |const v=>exact .of_plain ρ hx
 |global g =>
  obtain ⟨t,ht⟩:=hx
  exact .ptr (o:=0) ht
 |func f=>exact .func _ rfl rfl (by intro i x y hx;simp at hx) (by intro i x y hx;simp at hx)

theorem EnvR.operands {e:Env} {a:Act} (he:EnvR ρ e a.tmps) (xs:List Operand) (hx:∀ x∈xs,OkX ρ x):VRs ρ (xs.map (zaa e)) (xs.map a.eval):=by
 induction xs with
 |nil=>exact .nil ρ
 |cons x xs ih =>
  exact .cons (he.operand (hx x (by simp))) (ih λy hy=>hx y (by simp [hy]))

theorem EnvR.opt {e:Env} {a:Act} (he:EnvR ρ e a.tmps) {x:Option Operand} (hx:∀ y,x=some y->OkX ρ y):OptR ρ (x.map (zaa e)) (x.map a.eval):=by
 cases x with
 |none=>trivial
 |some y=>exact he.operand (hx y rfl)

def zhP (P:Program) (ρ:Rho) (h h':Heap) (w:World) (v:Vly) (f:FuncId) (cargs:Array Vly):Prop :=
 (∃ ρ' u w',(callFunc f cargs).run P w=.ok (.value u) w'/\Fr ρ ρ' h h' w w'/\Sim ρ' h' w'/\VR ρ' v u) \/
 ((callFunc f cargs).run P w=.ok (.enter f cargs) w/\Calls P f cargs w λed w'=>∃ ρ' u,ed=.returned u/\Fr ρ ρ' h h' w w'/\Sim ρ' h' w'/\VR ρ' v u)

def zij (P:Program) (ρ:Rho) (h h':Heap) (w:World) (v:Vly) (l:Nat) (cargs:Array Vly):Prop :=
 ∃ f tmps assign body,(Instr.yield l cargs).run P w=.ok (.round l f tmps assign body) w/\RoundIn Fence.wide 0 P l f tmps assign body w λed w'=>∃ ρ' u,ed=.returned u/\Fr ρ ρ' h h' w w'/\Sim ρ' h' w'/\VR ρ' v u

structure CS (P:Program) (gs:List Nat) (C:Fn->List Vly->Heap->Option (Vly × Heap)):Prop where
 fn:∀ f args h v h',C (.func f) args h=some (v,h')->∀ ρ w (cargs:Array Vly),GlobOk gs ρ->Sim ρ h w->Free ρ h h'->VRs ρ args cargs.toList->zhP P ρ h h' w v f cargs
 yield:∀ A args h v h',C (.yield A) args h=some (v,h')->∀ ρ w (cargs:Array Vly) L,ρ A=some L->GlobOk gs ρ->Sim ρ h w->Free ρ h h'->VRs ρ args cargs.toList->zij P ρ h h' w v L.b cargs

def OpR (P:Program) (ρ:Rho) (h h':Heap) (w:World) (v:Vly) (r:Result Next):Prop :=
 (∃ ρ' u w',(r=.ok (.value u) w'\/(r=.ok .skip w'/\u=undef))/\Fr ρ ρ' h h' w w'/\Sim ρ' h' w'/\VR ρ' v u) \/
 (∃ f cargs,r=.ok (.enter f cargs) w/\Calls P f cargs w λed w'=>∃ ρ' u,ed=.returned u/\Fr ρ ρ' h h' w w'/\Sim ρ' h' w'/\VR ρ' v u) \/
 (∃ l f tmps assign body,r=.ok (.round l f tmps assign body) w/\RoundIn Fence.wide 0 P l f tmps assign body w λed w'=>∃ ρ' u,ed=.returned u/\Fr ρ ρ' h h' w w'/\Sim ρ' h' w'/\VR ρ' v u)

theorem World.alloc_heap (w:World) (o:Obj):(w.alloc o).heap=w.heap.push o:=rfl

theorem OpR.still (hs:Sim ρ h w) {v u:Vly} {r:Result Next} (hr:r=.ok (.value u) w) (hv:VR ρ v u):OpR P ρ h h w v r :=
 .inl ⟨ρ,u,w,.inl hr,Fr.refl _ _ _,hs,hv⟩

theorem za3 {e:Env} {a:Act} {o:Oper} (hs:Sim ρ h w) (he:EnvR ρ e a.tmps) (hok:OpOk ρ o) {v:Vly} (hp:zaV P e o h=some (v,h')) (hcongr:(∀ x∈o.op.operands,a.eval x=zaa e x)->execOp a.eval o=execOp (zaa e) o) :
 OpR P ρ h h' w v ((execOp a.eval o).run P w):=by
 unfold zaV at hp
 split at hp
 .rename_i hall
  have heq:∀ x∈o.op.operands,a.eval x=zaa e x:=by
   intro x hx
   have h1:=List.all_eq_true.1 hall x (by simpa using hx)
   exact (he.operand (hok x (by simpa using hx))).eq_plain h1
  rw [hcongr heq]
  split at hp
  .rename_i v' hr
   split at hp
   .rename_i hpl
    cases hp
    exact .still hs (zaS P _ _ hr w) (.of_plain ρ hpl)
   .cases hp
  .cases hp
 .cases hp

theorem zeO {v:Vly} (hs:Sim ρ h w) (hnone:ρ h.size=none) {t:TypeId} {cs:List Vly} (u:Vly) (hv:VRs ρ cs u.cells.toList) :
 ∃ ρ',(newVar t u).run P w=.ok ⟨w.heap.size,0,none⟩ (w.alloc (.cells u.cells t))/\Fr ρ ρ' h (newRow t cs h).2 w (w.alloc (.cells u.cells t))/\Sim ρ' (newRow t cs h).2 (w.alloc (.cells u.cells t)) /\
   VR ρ' (newRow t cs h).1 (.pointer (some ⟨w.heap.size,0,none⟩)):=by
 have _:=v
 obtain ⟨ρ',hρ,hfr,hsim⟩:=zbk (W:=w.alloc (.cells u.cells t)) (cs:=cs) (m:=u.cells.toList) hs hnone rfl rfl rfl rfl (by rw [hv.1];exact zbv (by omega) rfl (λj _=>by rw [Nat.zero_add])) hv
 refine ⟨ρ',by simp [newVar,Go.newRow],hfr,hsim,?_⟩
 have:=VR.ptr (ρ:=ρ') (o:=0) hρ
 simpa [newRow] using this

theorem zbY (ps:Array (Nat × Operand)) (f:Operand->Vly):(ps.map λ(i,x)=>(i,f x))=(ps.toList.map λ(i,x)=>(i,f x)).toArray:=by
 apply Array.ext'
 simp

theorem zfQ {e:Env} {a:Act} (he:EnvR ρ e a.tmps) (ps:List (Nat × Operand)) (hok:∀ x∈ps.map (·.2),OkX ρ x) :
 (ps.map λ(i,x)=>(i,zaa e x)).length=(ps.map λ(i,x)=>(i,a.eval x)).length /\
 ∀ (i:Nat) (x y:Nat × Vly),(ps.map λ(i,x)=>(i,zaa e x))[i]? = some x->(ps.map λ(i,x)=>(i,a.eval x))[i]? = some y->x.1=y.1/\VR ρ x.2 y.2:=by
 refine ⟨by simp,λi x y hx hy=>?_⟩
 rw [List.getElem?_map,Option.map_eq_some_iff] at hx hy
 obtain ⟨⟨j,o⟩,h1,rfl⟩:=hx
 obtain ⟨⟨j',o'⟩,h2,rfl⟩:=hy
 rw [h1] at h2
 cases h2
 exact ⟨rfl,he.operand (hok o (List.mem_map.2 ⟨(j,o),List.mem_of_getElem? h1,rfl⟩))⟩

theorem zaM (hT:T.Fits P) {C:Fn->List Vly->Heap->Option (Vly × Heap)} {gs:List Nat} (hC:CS P gs C) (hG:GlobOk gs ρ) {e:Env} {a:Act} {o:Oper} (hs:Sim ρ h w) (he:EnvR ρ e a.tmps) (hok:OpOk ρ o) (hfree:Free ρ h h') {v:Vly}
 (hev:zal P T C e o h=some (v,h')):OpR P ρ h h' w v ((execOp a.eval o).run P w):=by
 have hall:∀ x∈o.op.operands.toList,OkX ρ x:=hok
 unfold zal at hev
 dsimp only at hev
 split at hev
 .rename_i x hop
  cases hev
  refine .still (u:=a.eval x) hs (by simp [execOp,hop]) (he.operand (hall _ (by simp [hop,Op.operands])))
 .rename_i x hop
  cases hev
  refine .still (u:=a.eval x) hs (by simp [execOp,hop]) (he.operand (hall _ (by simp [hop,Op.operands])))
 .rename_i c x y hop
  have hc:=he.operand (hall c (by simp [hop,Op.operands]))
  have hx:=he.operand (hall x (by simp [hop,Op.operands]))
  have hy:=he.operand (hall y (by simp [hop,Op.operands]))
  split at hev
  .rename_i t ht
   cases hev
   rw [ht] at hc
   have hc':a.eval c=.bool t:=hc.eq_plain rfl
   refine .still (u:=if t then a.eval x else a.eval y) hs (by simp [execOp,hop,hc',asBool]) ?_
   cases t
   .exact hy
   .exact hx
  .cases hev
 .rename_i t hop
  simp only [Option.map_eq_some_iff,Prod.exists] at hev
  obtain ⟨k,by',z,hinf,hev⟩:=hev
  obtain ⟨i,zv,hi,rfl,rfl,hz,rfl,hzl,hzp⟩:=hT.info t k by' z hinf
  have e1:v=(newRow t zv.cells.toList h).1:=(congrArg Prod.fst hev).symm
  have e2:h'=(newRow t zv.cells.toList h).2:=(congrArg Prod.snd hev).symm
  subst e1 e2
  obtain ⟨ρ',h1,h2,h3,h4⟩:=zeO (P:=P) (v:=undef) hs (hfree _ (Nat.le_refl _) (Nat.lt_succ_self _)) (t:=t) zv (VRs.plain ρ hzp)
  refine .inl ⟨ρ',_,_,.inl ?_,h2,h3,h4⟩
  simp [execOp,hop,Instr.alloc,zeroValue,typeInfo,hi,hz,h1]
 .rename_i t x hop
  have hx:=he.operand (hall x (by simp [hop,Op.operands]))
  simp only [Option.some.injEq] at hev
  have e1:v=(newRow t (zaa e x).cells.toList h).1:=(congrArg Prod.fst hev).symm
  have e2:h'=(newRow t (zaa e x).cells.toList h).2:=(congrArg Prod.snd hev).symm
  subst e1 e2
  obtain ⟨ρ',h1,h2,h3,h4⟩:=zeO (P:=P) (v:=undef) hs (hfree _ (Nat.le_refl _) (Nat.lt_succ_self _)) (t:=t) (a.eval x) hx.cells
  refine .inl ⟨ρ',_,_,.inl ?_,h2,h3,h4⟩
  simp [execOp,hop,Instr.box,h1]
 .rename_i t ps hop
  simp only [Option.map_eq_some_iff,Prod.mk.injEq] at hev
  obtain ⟨r,hr,rfl,rfl⟩:=hev
  obtain ⟨p1,p2⟩:=zfQ he ps.toList (λx hx=>hall x (by simpa [hop,Op.operands] using hx))
  obtain ⟨vc,h1,h2⟩:=zfl (ρ:=ρ) hT p1 p2 hr w
  refine .still hs ?_ h2
  simp only [execOp,hop,zbY,Sem.run_bind,h1,Result.andThen_ok,Sem.run_pure]
 .rename_i t n ps hop
  obtain ⟨p1,p2⟩:=zfQ he ps.toList (λx hx=>hall x (by simpa [hop,Op.operands] using hx))
  obtain ⟨ρ',vc,w',h1,h2,h3,h4⟩:=zcQ (ρ:=ρ) hT hs hfree p1 p2 hev
  refine .inl ⟨ρ',vc,w',.inl ?_,h2,h3,h4⟩
  simp only [execOp,hop,zbY,Sem.run_bind,h1,Result.andThen_ok,Sem.run_pure]
 .rename_i t x hop
  have hx:=he.operand (hall x (by simp [hop,Op.operands]))
  simp only [Option.map_eq_some_iff,Prod.mk.injEq] at hev
  obtain ⟨r,hr,rfl,rfl⟩:=hev
  obtain ⟨u,h1,h2⟩:=zcx hT hs hx hr
  exact .still hs (by simp [execOp,hop,h1]) h2
 .rename_i t x y hop
  have hx:=he.operand (hall x (by simp [hop,Op.operands]))
  have hy:=he.operand (hall y (by simp [hop,Op.operands]))
  simp only [Option.map_eq_some_iff,Prod.mk.injEq] at hev
  obtain ⟨h1,hr,rfl,rfl⟩:=hev
  unfold zeS at hr
  split at hr
  .rename_i A off hxe
   rw [hxe] at hx
   simp only [Option.bind_eq_some_iff] at hr
   obtain ⟨n,hn,hr⟩:=hr
   split at hr
   .rename_i hsz
    generalize hax:a.eval x=ax at hx
    cases hx with
    |ptr hA =>
     rename_i L
     obtain ⟨w',hst,hfr,hsim⟩:=za4 (P:=P) hs hA hy.cells hr
     have hcs:(a.eval y).cells.size=n:=by have:=hy.cells.1;simp at this;omega
     refine .inl ⟨ρ,undef,w',.inr ⟨?_,rfl⟩,hfr,hsim,.undef ρ⟩
     simp [execOp,hop,hax,Instr.storeAt,Instr.sureAddr,storeVar,zam hT hn,hcs,hst]
   .cases hr
  .cases hr
 .rename_i x hop
  have hx:=he.operand (hall x (by simp [hop,Op.operands]))
  split at hev
  .rename_i ad hxe
   cases hev
   rw [hxe] at hx
   generalize hax:a.eval x=ax at hx
   cases hx with
   |ptr hA=>exact .still hs (by simp [execOp,hop,hax]) (.ptr hA)
  .rename_i f fi ca hxe
   cases hev
   rw [hxe] at hx
   generalize hax:a.eval x=ax at hx
   cases hx with
   |func _ hf hc h1 h2=>exact .still hs (by simp [execOp,hop,hax]) (.func _ hf hc h1 h2)
  .rename_i t z hxe
   cases hev
   rw [hxe] at hx
   generalize hax:a.eval x=ax at hx
   cases hx with
   |iface _ h1=>exact .still hs (by simp [execOp,hop,hax]) (.iface t h1)
  .cases hev
 .rename_i op t x y yt hop
  have hx:=he.operand (hall x (by simp [hop,Op.operands]))
  have hy:=he.operand (hall y (by simp [hop,Op.operands]))
  simp only [Option.map_eq_some_iff,Prod.mk.injEq] at hev
  obtain ⟨r,hr,rfl,rfl⟩:=hev
  obtain ⟨vc,h1,h2⟩:=zgI hT hx hy hr x y w
  refine .still hs ?_ h2
  simp only [execOp,hop]
  rw [Sem.run_bind,h1]
  rfl
 .rename_i fn first captured hop
  split at hev
  .rename_i f
   cases hev
   have h1:=he.operands first.toList (λx hx=>hall x (by simp [hop,Op.operands];left;simpa using hx))
   have h2:=he.operands captured.toList (λx hx=>hall x (by simp [hop,Op.operands];right;simpa using hx))
   refine .still (u:=.func (.func f) (first.map a.eval) (captured.map a.eval)) hs ?_ ?_
   .simp [execOp,hop,Instr.makeFunc]
   .refine .func _ (by simp) (by simp) (λi x y hx hy=>h1.2 i x y ?_ ?_) (λi x y hx hy=>h2.2 i x y ?_ ?_)
    all_goals simp at hx hy ⊢;assumption
  .cases hev
 .rename_i t l c hop
  have hl:=he.operand (hall l (by simp [hop,Op.operands]))
  have hc:=he.operand (hall c (by simp [hop,Op.operands]))
  obtain ⟨ρ',vc,w',h1,h2,h3,h4⟩:=zde hT hs hfree hl hc hev
  refine .inl ⟨ρ',vc,w',.inl ?_,h2,h3,h4⟩
  simp [execOp,hop,h1]
 .rename_i t x l hi m hop
  have hx:=he.operand (hall x (by simp [hop,Op.operands]))
  have hl:=he.opt (x:=l) (λy hy=>hall y (by subst hy;simp [hop,Op.operands]))
  have hhi:=he.opt (x:=hi) (λy hy=>hall y (by subst hy;simp [hop,Op.operands]))
  have hm:=he.opt (x:=m) (λy hy=>hall y (by subst hy;simp [hop,Op.operands]))
  simp only [Option.map_eq_some_iff,Prod.mk.injEq] at hev
  obtain ⟨r,hr,rfl,rfl⟩:=hev
  obtain ⟨vc,h1,h2⟩:=zfW hT hx hl hhi hm hr w
  exact .still hs (by simp [execOp,hop,h1]) h2
 .rename_i s x f hop
  have hx:=he.operand (hall x (by simp [hop,Op.operands]))
  simp only [Option.map_eq_some_iff,Prod.mk.injEq] at hev
  obtain ⟨r,hr,rfl,rfl⟩:=hev
  obtain ⟨vc,h1,h2⟩:=zdb hT hx hr w
  exact .still hs (by simp [execOp,hop,h1]) h2
 .rename_i t x f hop
  have hx:=he.operand (hall x (by simp [hop,Op.operands]))
  simp only [Option.map_eq_some_iff,Prod.mk.injEq] at hev
  obtain ⟨r,hr,rfl,rfl⟩:=hev
  obtain ⟨vc,h1,h2⟩:=zfG hT hx hr w
  exact .still hs (by simp [execOp,hop,h1]) h2
 .rename_i t x i hop
  have hx:=he.operand (hall x (by simp [hop,Op.operands]))
  have hi:=he.operand (hall i (by simp [hop,Op.operands]))
  simp only [Option.map_eq_some_iff,Prod.mk.injEq] at hev
  obtain ⟨r,hr,rfl,rfl⟩:=hev
  obtain ⟨vc,h1,h2⟩:=zdd hT hx hi hr w
  exact .still hs (by simp [execOp,hop,h1]) h2
 .rename_i t i hop
  have ht:=he.operand (hall t (by simp [hop,Op.operands]))
  split at hev
  .rename_i vs hte
   rw [hte] at ht
   simp only [Option.map_eq_some_iff,Prod.mk.injEq] at hev
   obtain ⟨r,hr,rfl,rfl⟩:=hev
   generalize hat:a.eval t=at_ at ht
   cases ht with
   |tuple hc hh =>
    rename_i ds
    have hlt:i < vs.size:=(Array.getElem?_eq_some_iff.1 hr).1
    have hd:ds[i]? = some (ds[i]'(by omega)):=Array.getElem?_eq_getElem _
    exact .still hs (by simp [execOp,hop,hat,Instr.extract,hd]) (hh i _ _ hr hd)
  .cases hev
 .rename_i op t x hop
  refine za3 hs he hok hev (λheq=>?_)
  have:=heq x (by simp [hop,Op.operands])
  simp [execOp,hop,this]
 .rename_i s t x hop
  split at hev
  .have hx:=he.operand (hall x (by simp [hop,Op.operands]))
   simp only [Option.map_eq_some_iff,Prod.mk.injEq] at hev
   obtain ⟨r,hr,rfl,rfl⟩:=hev
   obtain ⟨u,h1,h2⟩:=zeb hT hs hx hr
   exact .still hs (by simp [execOp,hop,h1]) h2
  .split at hev
   .split at hev
    .rename_i hstr
     have hx:=he.operand (hall x (by simp [hop,Op.operands]))
     obtain ⟨ρ',u,w',r1,r2,r3,r4⟩:=zew hT hs hfree hstr hx hev
     exact .inl ⟨ρ',u,w',.inl (by simp [execOp,hop,r1]),r2,r3,r4⟩
    .cases hev
   .refine za3 hs he hok hev (λheq=>?_)
    have:=heq x (by simp [hop,Op.operands])
    simp [execOp,hop,this]
 .rename_i t x i hop
  refine za3 hs he hok hev (λheq=>?_)
  have h1:=heq x (by simp [hop,Op.operands])
  have h2:=heq i (by simp [hop,Op.operands])
  simp [execOp,hop,h1,h2]
 .rename_i c hop
  obtain ⟨callee,args,argTypes⟩:=c
  have hargs:∀ x∈args.toList,OkX ρ x:=λx hx=>hall x (by simp [hop,Op.operands,Call.operands];right;simpa using hx)
  dsimp only at hev
  split at hev
  .split at hev
   .rename_i t u s x hts hxs
    have e1:argTypes=#[t,u]:=by apply Array.ext';simpa using hts
    have e2:args=#[s,x]:=by apply Array.ext';simpa using hxs
    subst e1 e2
    have h1:=he.operand (hargs s (by simp))
    have h2:=he.operand (hargs x (by simp))
    split at hev
    .rename_i hu
     have hsrc':zg8 P u:=by
      unfold zgE at hu
      simp only [Bool.or_eq_true,beq_iff_eq] at hu
      rcases hu with rfl|hu
      .have h4:=hev
       unfold zbJ at h4
       split at h4
       .rename_i e' hd;exact .inl ⟨_,hT.desc _ _ hd⟩
       .cases h4
      .split at hu
       .rename_i hd;exact .inr (hT.desc _ _ hd)
       .rename_i e' hd;exact .inl ⟨_,hT.desc _ _ hd⟩
       .cases hu
     obtain ⟨ρ',vc,w',r1,r2,r3,r4⟩:=zcB (ty:=o.type) hT hs hfree hsrc' h1 h2 hev
     refine .inl ⟨ρ',vc,w',.inl ?_,r2,r3,r4⟩
     simp [execOp,hop,resolve,invoke,builtin,r1]
    .cases hev
   .cases hev
  .split at hev
   .rename_i t u d s hts hxs
    have e1:argTypes=#[t,u]:=by apply Array.ext';simpa using hts
    have e2:args=#[d,s]:=by apply Array.ext';simpa using hxs
    subst e1 e2
    have h1:=he.operand (hargs d (by simp))
    have h2:=he.operand (hargs s (by simp))
    obtain ⟨vc,w',r1,r2,r3,r4⟩:=zf5 (u:=u) (ty:=o.type) hT hs h1 h2 hev
    refine .inl ⟨ρ,vc,w',.inl ?_,r2,r3,r4⟩
    simp [execOp,hop,resolve,invoke,builtin,r1]
   .cases hev
  .split at hev
   .rename_i t x hts hxs
    have e1:argTypes=#[t]:=by apply Array.ext';simpa using hts
    have e2:args=#[x]:=by apply Array.ext';simpa using hxs
    subst e1 e2
    have h1:=he.operand (hargs x (by simp))
    simp only [Option.map_eq_some_iff,Prod.mk.injEq] at hev
    obtain ⟨h2,hr,rfl,rfl⟩:=hev
    obtain ⟨w',r1,r2,r3⟩:=zfn (ty:=o.type) hT hs h1 hr
    refine .inl ⟨ρ,undef,w',.inl ?_,r2,r3,.undef ρ⟩
    simp [execOp,hop,resolve,invoke,builtin,r1]
   .cases hev
  .split at hev
   .rename_i t ts x hts hxs
    have e2:args=#[x]:=by apply Array.ext';simpa using hxs
    have e1:argTypes=(t::ts).toArray:=by apply Array.ext';simpa using hts
    subst e1 e2
    have h1:=he.operand (hargs x (by simp))
    simp only [Option.map_eq_some_iff,Prod.mk.injEq] at hev
    obtain ⟨r,hr,rfl,rfl⟩:=hev
    obtain ⟨vc,r1,r2⟩:=zgU (ty:=o.type) hT hs h1 hr ts
    refine .still hs ?_ r2
    simp [execOp,hop,resolve,invoke,builtin,r1]
   .cases hev
  .refine za3 hs he hok hev (λheq=>?_)
   have hm:args.map a.eval=args.map (zaa e):=by
    apply Array.map_congr_left
    intro x hx
    exact heq x (by simp [hop,Op.operands,Call.operands];exact hx)
   simp [execOp,hop,resolve,hm]
  .refine za3 hs he hok hev (λheq=>?_)
   have hm:args.map a.eval=args.map (zaa e):=by
    apply Array.map_congr_left
    intro x hx
    exact heq x (by simp [hop,Op.operands,Call.operands];exact hx)
   simp [execOp,hop,resolve,hm]
  .split at hev
   .rename_i t ts m k hts hxs
    have e2:args=#[m,k]:=by apply Array.ext';simpa using hxs
    have e1:argTypes=(t::ts).toArray:=by apply Array.ext';simpa using hts
    subst e1 e2
    have h1:=he.operand (hargs m (by simp))
    have h2:=he.operand (hargs k (by simp))
    simp only [Option.map_eq_some_iff,Prod.mk.injEq] at hev
    obtain ⟨h3,hr,rfl,rfl⟩:=hev
    obtain ⟨w',r1,r2,r3⟩:=zeX (ty:=o.type) (ts:=ts) hT hs h1 h2 hr
    refine .inl ⟨ρ,undef,w',.inl ?_,r2,r3,.undef ρ⟩
    simp [execOp,hop,resolve,invoke,builtin,r1,undef]
   .cases hev
  .split at hev
   .rename_i t ts x hts hxs
    have e2:args=#[x]:=by apply Array.ext';simpa using hxs
    have e1:argTypes=(t::ts).toArray:=by apply Array.ext';simpa using hts
    subst e1 e2
    have h1:=he.operand (hargs x (by simp))
    simp only [Option.map_eq_some_iff,Prod.mk.injEq] at hev
    obtain ⟨r,hr,rfl,rfl⟩:=hev
    obtain ⟨vc,r1,r2⟩:=zgK (ty:=o.type) hT h1 hr ts w
    refine .still hs ?_ r2
    simp [execOp,hop,resolve,invoke,builtin,r1]
   .cases hev
  .rename_i rv name
   have hrv:=he.operand (hall rv (by simp [hop,Op.operands,Call.operands]))
   split at hev
   .rename_i t x hre
    rw [hre] at hrv
    generalize har:a.eval rv=ar at hrv
    simp only [Option.bind_eq_some_iff,Prod.exists] at hev
    obtain ⟨f,y,hm,hev⟩:=hev
    cases hrv with
    |iface _ hx =>
     rename_i x'
     obtain ⟨y',r1,r2⟩:=zfa hT hs hx hm (P.types.size+Made.depth - 1)
     have hd:P.types.size+Made.depth - 1+1=P.types.size+Made.depth:=by simp [Made.depth]
     rw [hd] at r1
     have hva:=he.operands args.toList hargs
     have hexec:(execOp a.eval o).run P w=(callFunc f (#[y']++args.map a.eval)).run P w:=by
      have h0:(#[Value.iface t x']++Array.map a.eval args)[0]? = some (.iface t x'):=by rw [Array.getElem?_append_left (by simp)];rfl
      have hprog:(program:Sem Program).run P w=.ok P w:=rfl
      have hex:(#[Value.iface t x']++Array.map a.eval args).extract 1 (#[Value.iface t x']++Array.map a.eval args).size=Array.map a.eval args:=by
       rw [Array.extract_append]
       simp
      simp only [execOp,hop,resolve,Sem.run_bind,Sem.run_pure,Result.andThen_ok,invoke,har,h0,callMethod,hprog,r1,hex]
     have hcall:=hC.fn f _ h v h' hev ρ w (#[y']++args.map a.eval) hG hs hfree (by
      have:=VRs.cons r2 hva
      simpa using this)
     rw [hexec]
     rcases hcall with ⟨ρ',u,w',q1,q2,q3,q4⟩|⟨q1,q2⟩
     .exact .inl ⟨ρ',u,w',.inl q1,q2,q3,q4⟩
     .exact .inr (.inl ⟨f,_,q1,q2⟩)
   .cases hev
  .rename_i f
   have hf:=he.operand (hall f (by simp [hop,Op.operands,Call.operands]))
   split at hev
   .rename_i g first captured hfe
    rw [hfe] at hf
    generalize haf:a.eval f=af at hf
    cases hf with
    |func _ h1 h2 h3 h4 =>
     rename_i first' captured'
     have hv1:VRs ρ first.toList first'.toList:=⟨by simpa using h1,λi x y hx hy=>h3 i x y (by simpa using hx) (by simpa using hy)⟩
     have hv2:VRs ρ captured.toList captured'.toList:=⟨by simpa using h2,λi x y hx hy=>h4 i x y (by simpa using hx) (by simpa using hy)⟩
     have hva:=he.operands args.toList hargs
     have hcall:=hC.fn g _ h v h' hev ρ w ((first'++args.map a.eval)++captured') hG hs hfree (by
      have:=(hv1.append hva).append hv2
      simpa using this)
     have hexec:(execOp a.eval o).run P w=(callFunc g ((first'++args.map a.eval)++captured')).run P w:=by
      simp [execOp,hop,resolve,haf,Deferred.ofValue,invoke]
     rw [hexec]
     rcases hcall with ⟨ρ',u,w',r1,r2,r3,r4⟩|⟨r1,r2⟩
     .exact .inl ⟨ρ',u,w',.inl r1,r2,r3,r4⟩
     .exact .inr (.inl ⟨g,_,r1,r2⟩)
   .rename_i A first captured hfe
    rw [hfe] at hf
    generalize haf:a.eval f=af at hf
    split at hev
    .cases hf with
     |yield hA =>
      rename_i L _
      have hva:=he.operands args.toList hargs
      obtain ⟨g,tmps,assign,body,r1,r2⟩:=hC.yield A _ h v h' hev ρ w (args.map a.eval) L hA hG hs hfree (by simpa using hva)
      refine .inr (.inr ⟨L.b,g,tmps,assign,body,?_,r2⟩)
      rw [<- r1]
      simp [execOp,hop,resolve,haf,Deferred.ofValue,invoke]
    .cases hev
   .cases hev
  .cases hev
 .rename_i t r hop
  have hnew:∃ ρ',Fr ρ ρ' h (h.push (.map [] 0)) w (w.alloc (.map #[] 0))/\Sim ρ' (h.push (.map [] 0)) (w.alloc (.map #[] 0))/\VR ρ' (.map (some h.size)) (.map (some w.heap.size))\/¬ (ρ h.size=none):=by
   by_cases hn:ρ h.size=none
   .obtain ⟨ρ',h1,h2,h3⟩:=zbr (W:=w.alloc (.map #[] 0)) (L:=⟨w.heap.size,0,0⟩) (b:=.map [] 0) hs hn (λk hk=>by rw [Am.World.alloc_heap,Array.getElem?_push,if_neg (by omega)]) (by rw [Am.World.alloc_heap];simp) rfl rfl rfl (Nat.le_refl _)
     (λρ' _=>⟨#[],by rw [Am.World.alloc_heap];simp,rfl,by intro i x y hx;simp at hx⟩)
    exact ⟨ρ',.inl ⟨h2,h3,.map h1⟩⟩
   .exact ⟨ρ,.inr hn⟩
  split at hev
  .cases hev
   obtain ⟨ρ',⟨h2,h3,h4⟩|hn⟩:=hnew
   .exact .inl ⟨ρ',_,_,.inl (by simp [execOp,hop,Instr.makeMap]),h2,h3,h4⟩
   .exact (hn (hfree _ (Nat.le_refl _) (Nat.lt_succ_self _))).elim
  .rename_i x
   have hx:=he.operand (hall x (by simp [hop,Op.operands]))
   split at hev
   .rename_i hd hxe
    cases hev
    rw [hxe] at hx
    generalize hax:a.eval x=ax at hx
    cases hx
    obtain ⟨ρ',⟨h2,h3,h4⟩|hn⟩:=hnew
    .refine .inl ⟨ρ',_,_,.inl ?_,h2,h3,h4⟩
     simp [execOp,hop,Instr.makeMap,hax,run_underlying (hT.desc _ _ hd),asInt,asIntOf]
    .exact (hn (hfree _ (Nat.le_refl _) (Nat.lt_succ_self _))).elim
   .cases hev
 .rename_i t x k ok hop
  have hx:=he.operand (hall x (by simp [hop,Op.operands]))
  have hk:=he.operand (hall k (by simp [hop,Op.operands]))
  simp only [Option.map_eq_some_iff,Prod.mk.injEq] at hev
  obtain ⟨r,hr,rfl,rfl⟩:=hev
  obtain ⟨u,h1,h2⟩:=ze8 hT hs hx hk hr
  exact .still hs (by simp [execOp,hop,h1]) h2
 .rename_i t m k x hop
  have hm:=he.operand (hall m (by simp [hop,Op.operands]))
  have hk:=he.operand (hall k (by simp [hop,Op.operands]))
  have hx:=he.operand (hall x (by simp [hop,Op.operands]))
  simp only [Option.map_eq_some_iff,Prod.mk.injEq] at hev
  obtain ⟨h1,hr,rfl,rfl⟩:=hev
  obtain ⟨w',r1,r2,r3⟩:=zcO hT hs hm hk hx hr
  exact .inl ⟨ρ,undef,w',.inr ⟨by simp [execOp,hop,r1],rfl⟩,r2,r3,.undef ρ⟩
 .rename_i t m k x hop
  have hm:=he.operand (hall m (by simp [hop,Op.operands]))
  have hk:=he.operand (hall k (by simp [hop,Op.operands]))
  have hx:=he.operand (hall x (by simp [hop,Op.operands]))
  simp only [Option.map_eq_some_iff,Prod.mk.injEq] at hev
  obtain ⟨h1,hr,rfl,rfl⟩:=hev
  obtain ⟨w',r1,r2,r3⟩:=zcO hT hs hm hk hx hr
  exact .inl ⟨ρ,undef,w',.inr ⟨by simp [execOp,hop,r1],rfl⟩,r2,r3,.undef ρ⟩
 .rename_i t m k hop
  have hm:=he.operand (hall m (by simp [hop,Op.operands]))
  have hk:=he.operand (hall k (by simp [hop,Op.operands]))
  obtain ⟨u,w',r1,r2,r3,r4⟩:=zfw hT hs hm hk hev
  exact .inl ⟨ρ,u,w',.inl (by simp [execOp,hop,r1]),r2,r3,r4⟩
 .rename_i t m k x hop
  have hm:=he.operand (hall m (by simp [hop,Op.operands]))
  have hk:=he.operand (hall k (by simp [hop,Op.operands]))
  have hx:=he.operand (hall x (by simp [hop,Op.operands]))
  simp only [Option.map_eq_some_iff,Prod.mk.injEq] at hev
  obtain ⟨h1,hr,rfl,rfl⟩:=hev
  obtain ⟨w',r1,r2,r3⟩:=zcS (P:=P) (t:=t) hs hm hk hx hr
  exact .inl ⟨ρ,undef,w',.inr ⟨by simp [execOp,hop,r1],rfl⟩,r2,r3,.undef ρ⟩
 .rename_i t x hop
  have hx:=he.operand (hall x (by simp [hop,Op.operands]))
  simp only [Option.map_eq_some_iff,Prod.mk.injEq] at hev
  obtain ⟨r,hr,rfl,rfl⟩:=hev
  obtain ⟨u,h1,h2⟩:=zfJ hT hx hr w
  exact .still hs (by simp [execOp,hop,h1]) h2
 .rename_i x xt t ok hop
  have hx:=he.operand (hall x (by simp [hop,Op.operands]))
  simp only [Option.map_eq_some_iff,Prod.mk.injEq] at hev
  obtain ⟨r,hr,rfl,rfl⟩:=hev
  obtain ⟨u,h1,h2⟩:=zeU (xt:=xt) hT hx hr w
  exact .still hs (by simp [execOp,hop,h1]) h2
 .rename_i t x hop
  have hx:=he.operand (hall x (by simp [hop,Op.operands]))
  obtain ⟨ρ',u,w',r1,r2,r3,r4⟩:=zdJ hT hs hfree hx hev
  exact .inl ⟨ρ',u,w',.inl (by simp [execOp,hop,r1]),r2,r3,r4⟩
 .rename_i x s hop
  have hx:=he.operand (hall x (by simp [hop,Op.operands]))
  split at hev
  .cases hev
  .rename_i hsf
   have hsf':s=false:=by simpa using hsf
   subst hsf'
   obtain ⟨u,w',r1,r2,r3,r4⟩:=zef (P:=P) (ty:=o.type) hs hx hev
   exact .inl ⟨ρ,u,w',.inl (by simp [execOp,hop,r1]),r2,r3,r4⟩
 .rename_i x hop
  have hx:=he.operand (hall x (by simp [hop,Op.operands]))
  simp only [Option.map_eq_some_iff,Prod.mk.injEq] at hev
  obtain ⟨r,hr,rfl,rfl⟩:=hev
  obtain ⟨u,h1,h2⟩:=zdp (P:=P) hs hx hr
  exact .still hs (by simp [execOp,hop,h1]) h2
 .cases hev
end
end Go.Am
namespace Go.Am
open Go.RowKit

section
variable {P:Program} {T:Tab} {ρ:Rho} {h h':Heap} {w:World}

def WR (rl:Option Nat):Fence:={ Fence.wide with round:=rl }
theorem zeB {rl:Option Nat} {n:Nat} {f:FuncId} {args:Array Vly} {R:Ending->World->Prop} (hc:Calls P f args w R):CallsIn (WR rl) n P f args w R :=
 (callsIn_wide (n:=n)).2 hc

theorem OpR.wp {o:Oper} {a:Act} {v:Vly} (hr:OpR P ρ h h' w v ((execOp a.eval o).run P w)) (hnd:∀ c,o.op≠.defer c) {K:Act->World->Prop} {Q:Exit->Act->World->Prop} {rl:Option Nat}
 (hK:∀ ρ' u w',Fr ρ ρ' h h' w w'->Sim ρ' h' w'->VR ρ' v u->K (a.put o.dst u) w'):o.wpIn (WR rl) 0 P a w K Q:=by
 unfold Oper.wpIn
 refine ⟨λ_ _=>trivial,?_⟩
 rw [Oper.semAt_eq _ _ _ hnd]
 rcases hr with ⟨ρ',u,w',h1,h2,h3,h4⟩|⟨f,cargs,h1,h2⟩|⟨l,f,tmps,assign,body,h1,h2⟩
 .rcases h1 with h1|⟨h1,rfl⟩
  .rw [h1];exact hK ρ' u w' h2 h3 h4
  .rw [h1];exact hK ρ' undef w' h2 h3 h4
 .rw [h1]
  refine ⟨(λhh=>by cases hh),zeB (h2.mono ?_)⟩
  rintro ed w' ⟨ρ',u,rfl,h3,h4,h5⟩
  exact hK ρ' u w' h3 h4 h5
 .rw [h1]
  refine ⟨(λhh=>by cases hh),RoundIn.mono h2 ?_⟩
  rintro ed w' ⟨ρ',u,rfl,h3,h4,h5⟩
  exact hK ρ' u w' h3 h4 h5

theorem zax {C:Fn->List Vly->Heap->Option (Vly × Heap)} {e:Env} {o:Oper} {v:Vly} (hev:zal P T C e o h=some (v,h')):∀ c,o.op≠.defer c:=by
 intro c hc
 simp [zal,hc] at hev

theorem zf1 {ops:Array Oper} {o:Oper} {e:Env} {tmps:Array Vly} (he:EnvR ρ e tmps):Region.wanted o (yielded ops tmps)=zaL ops o e:=by
 unfold Region.wanted zaL
 cases o.guard with
 |none=>rfl
 |some g =>
  obtain ⟨j,b⟩:=g
  simp only [yielded]
  cases (ops[j]?).bind (·.dst) with
  |none=>simp
  |some t =>
   simp only [Option.bind_some]
   have hv:=he.2 t
   cases ht:tmps[t]? with
   |none =>
    have hlen:tmps.size<=t:=by
     rcases Nat.lt_or_ge t tmps.size with hlt|hge
     .rw [Array.getElem?_eq_getElem hlt] at ht;cases ht
     .exact hge
    rw [Env.get_of_ge e t (by rw [he.1];exact hlen)]
    rfl
   |some u =>
    have hu:tmps.getD t undef=u:=by simp [ht]
    rw [hu] at hv
    generalize e.get t=x at hv
    cases hv <;> first|rfl|(cases b <;> rename_i c <;> cases c <;> rfl)

structure Keeps (h h':Heap):Prop where
 size:h.size<=h'.size
 low:h'.low<=h.low
 get:∀ A,A < h.size->A < h'.low->h'.get A=h.get A

theorem Keeps.refl (h:Heap):Keeps h h:=⟨Nat.le_refl _,Nat.le_refl _,λ_ _ _=>rfl⟩
theorem Keeps.trans {h h1 h2:Heap} (a:Keeps h h1) (b:Keeps h1 h2):Keeps h h2 :=
 ⟨Nat.le_trans a.size b.size,Nat.le_trans b.low a.low,λA h3 h4=>(b.get A (Nat.lt_of_lt_of_le h3 a.size) h4).trans (a.get A h3 (Nat.lt_of_lt_of_le h4 b.low))⟩
theorem Keeps.push (h:Heap) (b:Blk):Keeps h (h.push b):=⟨Nat.le_succ _,Nat.le_refl _,λA h3 _=>by rw [Heap.get_push,if_neg (by omega)]⟩
theorem Keeps.set {h:Heap} {A:Nat} (b:Blk) (hA:A < h.size):Keeps h (h.set A b) :=
 ⟨Nat.le_refl _,Nat.min_le_left _ _,λA' _ h4=>by rw [Heap.low_set] at h4;rw [Heap.get_set _ _ _ _ hA,if_neg (by omega)]⟩

theorem zbB {A o:Nat} {vs:List Vly} (hw:zcP A o vs h=some h'):Keeps h h':=by
 unfold zcP at hw
 split at hw
 .rename_i hg
  split at hw
  .cases hw;exact .set _ (Heap.lt_of_get hg)
  .cases hw
 .cases hw

theorem zcA {t:TypeId} {s x v:Vly} (ha:zbJ T t s x h=some (v,h')):Keeps h h':=by
 unfold zbJ at ha
 split at ha
 .simp only [Option.bind_eq_some_iff,Prod.exists] at ha
  obtain ⟨k,by',z,_,m,news,_,ha⟩:=ha
  split at ha
  .split at ha
   .cases ha;exact .refl _
   .split at ha
    .cases ha
    .split at ha
     .split at ha
      .split at ha
       .simp only [Option.map_eq_some_iff,Prod.mk.injEq] at ha
        obtain ⟨h1,hw,_,rfl⟩:=ha
        exact zbB hw
       .cases ha
      .cases ha
     .simp only [Option.bind_eq_some_iff] at ha
      obtain ⟨old,_,ha⟩:=ha
      split at ha
      .cases ha;exact .push _ _
      .split at ha
       .split at ha
        .rename_i hg
         split at ha
         .cases ha;exact (Keeps.set _ (Heap.lt_of_get hg)).trans (.push _ _)
         .cases ha
        .cases ha
       .cases ha
  .cases ha
 .cases ha

theorem zcN {t:TypeId} {x k v:Vly} (hr:zbV T t x k v h=some h'):Keeps h h':=by
 unfold zbV at hr
 split at hr
 .split at hr
  .rename_i hg
   split at hr
   .simp only [Option.bind_eq_some_iff] at hr
    obtain ⟨r,_,hr⟩:=hr
    split at hr
    .simp only [Option.bind_eq_some_iff] at hr
     obtain ⟨e,_,hr⟩:=hr
     split at hr
     .cases hr;exact .set _ (Heap.lt_of_get hg)
     .cases hr
    .cases hr;exact .set _ (Heap.lt_of_get hg)
   .cases hr
  .cases hr
 .cases hr

theorem zev {d:TypeId} {x v:Vly} (hr:zbU T d x h=some (v,h')):Keeps h h':=by
 unfold zbU at hr
 split at hr
 .split at hr
  .split at hr
   .cases hr
   .cases hr;exact .push _ _
  .cases hr
 .cases hr
theorem zfv {t:TypeId} {x k v:Vly} (hr:zdo T t x k h=some (v,h')):Keeps h h':=by
 unfold zdo at hr
 split at hr
 .split at hr
  .rename_i hg
   split at hr
   .simp only [Option.bind_eq_some_iff] at hr
    obtain ⟨r,_,hr⟩:=hr
    split at hr
    .simp only [Option.bind_eq_some_iff] at hr
     obtain ⟨e,_,hr⟩:=hr
     split at hr
     .cases hr;exact .set _ (Heap.lt_of_get hg)
     .cases hr
    .simp only [Option.map_eq_some_iff,Prod.mk.injEq] at hr
     obtain ⟨z,_,_,rfl⟩:=hr
     exact .set _ (Heap.lt_of_get hg)
   .cases hr
  .cases hr
 .cases hr
theorem zcR {x s v:Vly} (hr:zaI x s v h=some h'):Keeps h h':=by
 unfold zaI at hr
 split at hr
 .split at hr
  .rename_i hg
   simp only [Option.map_eq_some_iff] at hr
   obtain ⟨i,_,rfl⟩:=hr
   exact .set _ (Heap.lt_of_get hg)
  .cases hr
 .cases hr

theorem zdI {t:TypeId} {x v:Vly} (hr:zbs T t x h=some (v,h')):Keeps h h':=by
 unfold zbs at hr
 split at hr
 .split at hr
  .cases hr;exact .push _ _
  .cases hr
 .cases hr
theorem zee {x v:Vly} (hr:zbR x h=some (v,h')):Keeps h h':=by
 unfold zbR at hr
 split at hr
 .split at hr
  .rename_i hg
   split at hr
   .cases hr;exact .refl _
   .split at hr
    .cases hr;exact .set _ (Heap.lt_of_get hg)
    .cases hr
   .split at hr
    .cases hr;exact .refl _
    .cases hr
   .cases hr
  .cases hr
 .cases hr
theorem zeW {t:TypeId} {x k:Vly} (hr:zcs T t x k h=some h'):Keeps h h':=by
 unfold zcs at hr
 split at hr
 .split at hr
  .cases hr;exact .refl _
  .cases hr
 .split at hr
  .rename_i hg
   split at hr
   .simp only [Option.bind_eq_some_iff] at hr
    obtain ⟨r,_,hr⟩:=hr
    split at hr
    .cases hr;exact .set _ (Heap.lt_of_get hg)
    .cases hr;exact .set _ (Heap.lt_of_get hg)
   .cases hr
  .cases hr
 .cases hr

def zcz (C:Fn->List Vly->Heap->Option (Vly × Heap)):Prop:=∀ f args h v h',C f args h=some (v,h')->Keeps h h'

theorem zaz {C:Fn->List Vly->Heap->Option (Vly × Heap)} (hC:zcz C) {e:Env} {o:Oper} {v:Vly} (hev:zal P T C e o h=some (v,h')):Keeps h h':=by
 have hmap:∀ {r:Option Vly},(r.map λx=>(x,h))=some (v,h')->Keeps h h':=by
  intro r hr
  simp only [Option.map_eq_some_iff,Prod.mk.injEq] at hr
  obtain ⟨_,_,_,rfl⟩:=hr
  exact .refl _
 have hpure:zaV P e o h=some (v,h')->Keeps h h':=by
  intro hp
  unfold zaV at hp
  split at hp
  .split at hp
   .split at hp
    .cases hp;exact .refl _
    .cases hp
   .cases hp
  .cases hp
 unfold zal at hev
 dsimp only at hev
 split at hev
 .cases hev;exact .refl _
 .cases hev;exact .refl _
 .split at hev
  .cases hev;exact .refl _
  .cases hev
 .simp only [Option.map_eq_some_iff,Prod.exists] at hev
  obtain ⟨_,_,z,_,hev⟩:=hev
  have e2:=congrArg Prod.snd hev
  simp only at e2
  subst e2
  exact .push _ _
 .simp only [Option.some.injEq] at hev
  have e2:=congrArg Prod.snd hev
  simp only at e2
  subst e2
  exact .push _ _
 .exact hmap hev
 .unfold zau at hev
  split at hev
  .simp only [Option.bind_eq_some_iff,Prod.exists] at hev
   obtain ⟨_,_,_,_,hev⟩:=hev
   split at hev
   .cases hev
   .simp only [Option.map_eq_some_iff,Prod.mk.injEq] at hev
    obtain ⟨_,_,_,rfl⟩:=hev
    exact .push _ _
  .cases hev
 .exact hmap hev
 .simp only [Option.map_eq_some_iff,Prod.mk.injEq] at hev
  obtain ⟨h1,hr,_,rfl⟩:=hev
  unfold zeS at hr
  split at hr
  .simp only [Option.bind_eq_some_iff] at hr
   obtain ⟨_,_,hr⟩:=hr
   split at hr
   .exact zbB hr
   .cases hr
  .cases hr
 .split at hev
  .cases hev;exact .refl _
  .cases hev;exact .refl _
  .cases hev;exact .refl _
  .cases hev
 .exact hmap hev
 .split at hev
  .cases hev;exact .refl _
  .cases hev
 .unfold zbj at hev
  split at hev
  .simp only [Option.bind_eq_some_iff,Prod.exists] at hev
   obtain ⟨_,_,_,_,hev⟩:=hev
   split at hev
   .cases hev;exact .push _ _
   .cases hev
  .cases hev
 .exact hmap hev
 .exact hmap hev
 .exact hmap hev
 .exact hmap hev
 .split at hev
  .exact hmap hev
  .cases hev
 .exact hpure hev
 .split at hev
  .exact hmap hev
  .split at hev
   .split at hev
    .exact zev hev
    .cases hev
   .exact hpure hev
 .exact hpure hev
 .split at hev
  .split at hev
   .split at hev
    .exact zcA hev
    .cases hev
   .cases hev
  .split at hev
   .unfold zgN at hev
    split at hev
    .simp only [Option.bind_eq_some_iff,Prod.exists] at hev
     obtain ⟨_,_,_,_,_,hev⟩:=hev
     split at hev
     .cases hev;exact .refl _
     .split at hev
      .simp only [Option.map_eq_some_iff,Prod.mk.injEq] at hev
       obtain ⟨h1,hw,_,rfl⟩:=hev
       exact zbB hw
      .cases hev
    .cases hev
   .cases hev
  .split at hev
   .simp only [Option.map_eq_some_iff,Prod.mk.injEq] at hev
    obtain ⟨h1,hr,_,rfl⟩:=hev
    unfold zeC at hr
    split at hr
    .split at hr
     .cases hr;exact .refl _
     .simp only [Option.bind_eq_some_iff,Prod.exists] at hr
      obtain ⟨_,_,_,_,hr⟩:=hr
      split at hr
      .exact zbB hr
      .cases hr
    .cases hr
   .cases hev
  .split at hev
   .exact hmap hev
   .cases hev
  .exact hpure hev
  .exact hpure hev
  .split at hev
   .simp only [Option.map_eq_some_iff,Prod.mk.injEq] at hev
    obtain ⟨h1,hr,_,rfl⟩:=hev
    exact zeW hr
   .cases hev
  .split at hev
   .exact hmap hev
   .cases hev
  .split at hev
   .simp only [Option.bind_eq_some_iff,Prod.exists] at hev
    obtain ⟨_,_,_,hev⟩:=hev
    exact hC _ _ _ _ _ hev
   .cases hev
  .split at hev
   .exact hC _ _ _ _ _ hev
   .split at hev
    .exact hC _ _ _ _ _ hev
    .cases hev
   .cases hev
  .cases hev
 .split at hev
  .cases hev;exact .push _ _
  .split at hev
   .cases hev;exact .push _ _
   .cases hev
 .exact hmap hev
 .simp only [Option.map_eq_some_iff,Prod.mk.injEq] at hev
  obtain ⟨h1,hr,_,rfl⟩:=hev
  exact zcN hr
 .simp only [Option.map_eq_some_iff,Prod.mk.injEq] at hev
  obtain ⟨h1,hr,_,rfl⟩:=hev
  exact zcN hr
 .exact zfv hev
 .simp only [Option.map_eq_some_iff,Prod.mk.injEq] at hev
  obtain ⟨h1,hr,_,rfl⟩:=hev
  exact zcR hr
 .exact hmap hev
 .exact hmap hev
 .exact zdI hev
 .split at hev
  .cases hev
  .exact zee hev
 .exact hmap hev
 .cases hev

theorem zbd {C:Fn->List Vly->Heap->Option (Vly × Heap)} (hC:zcz C) {ops:Array Oper}:∀ (l:List Oper) (e e':Env) (h h':Heap),zaK P T C ops l e h=some (e',h')->Keeps h h'
 | [],e,e',h,h',hev=>by simp only [zaK,Option.some.injEq,Prod.mk.injEq] at hev;obtain ⟨_,rfl⟩:=hev;exact .refl _
 |o::l,e,e',h,h',hev=>by
  simp only [zaK] at hev
  split at hev
  .split at hev
   .rename_i v h1 h2
    exact (zaz hC h2).trans (zbd hC l _ _ _ _ hev)
   .cases hev
  .exact zbd hC l _ _ _ _ hev

theorem zbN (hT:T.Fits P) {C:Fn->List Vly->Heap->Option (Vly × Heap)} {gs:List Nat} (hC:CS P gs C) (hg:zcz C) {ops:Array Oper} {Q:Exit->Act->World->Prop} {rl:Option Nat} {dd:List Deferred} :
 ∀ (l:List Oper) (e e':Env) (h h':Heap) (ρ:Rho) (a:Act) (w:World),zaK P T C ops l e h=some (e',h')->(∀ o∈l,OpOk ρ o)->GlobOk gs ρ->Sim ρ h w->Free ρ h h'->EnvR ρ e a.tmps->a.defers=dd ->
   (∀ ρ' a' w',Fr ρ ρ' h h' w w'->Sim ρ' h' w'->EnvR ρ' e' a'.tmps->a'.defers=dd->Q .normal a' w')->wpListIn (WR rl) 0 P ops Q l a w
 | [],e,e',h,h',ρ,a,w,hev,_,_,hs,_,he,hd,hQ=>by
  simp only [zaK,Option.some.injEq,Prod.mk.injEq] at hev
  obtain ⟨rfl,rfl⟩:=hev
  exact hQ ρ a w (Fr.refl _ _ _) hs he hd
 |o::l,e,e',h,h',ρ,a,w,hev,hok,hG,hs,hf,he,hd,hQ=>by
  have hok1:=hok o (by simp)
  have hok2:∀ q∈l,OpOk ρ q:=λq hq=>hok q (by simp [hq])
  simp only [zaK] at hev
  unfold wpListIn
  rw [zf1 he]
  split at hev
  .rename_i hw
   rw [if_pos hw]
   split at hev
   .rename_i v h1 h2
    have hsz:=(zbd hg l _ _ _ _ hev).size
    refine (zaM hT hC hG hs he hok1 (hf.left hsz) h2).wp (zax h2) λρ1 u w1 f1 s1 v1=>?_
    refine zbN hT hC hg l _ _ _ _ ρ1 _ w1 hev (λq hq=>(hok2 q hq).mono f1.grow) (hG.mono f1.grow) s1 (hf.right f1) ((he.mono f1.grow).put v1 o.dst) (by cases o.dst <;> exact hd) ?_
    intro ρ2 a2 w2 f2 s2 e2 d2
    exact hQ ρ2 a2 w2 (f1.trans f2) s2 e2 d2
   .cases hev
  .rename_i hw
   rw [if_neg hw]
   refine ⟨λ_ _=>trivial,?_⟩
   exact zbN hT hC hg l _ _ _ _ ρ _ w hev hok2 hG hs hf (he.put (.undef ρ) o.dst) (by cases o.dst <;> exact hd) hQ

def Ex.to:Ex->Exit
 | .normal=>.normal
 | .exit id=>.exit id
 | .ret=>.ret

def DS (P:Program) (gs:List Nat) (D:Array Oper->Env->Heap->Option (Env × Heap)):Prop :=
 ∀ (rl:Option Nat) (id:Nat) (ops:Array Oper) (e e':Env) (h h':Heap) (ρ:Rho) (a:Act) (w:World) (Q:Exit->Act->World->Prop),D ops e h=some (e',h')->(∀ o∈ops.toList,OpOk ρ o)->GlobOk gs ρ->Sim ρ h w->Free ρ h h'->EnvR ρ e a.tmps ->
   (∀ ρ' a' w',Fr ρ ρ' h h' w w'->Sim ρ' h' w'->EnvR ρ' e' a'.tmps->a'.defers=a.defers->Q .normal a' w')->(Code.region id ops true).wpIn (WR rl) 0 P Q a w
def zg6 (D:Array Oper->Env->Heap->Option (Env × Heap)):Prop:=∀ ops e h e' h',D ops e h=some (e',h')->Keeps h h'

theorem zcX {f:Env->Heap->Option (Ex × Env × Heap)} (hf:∀ e h x e' h',f e h=some (x,e',h')->Keeps h h'):∀ (n:Nat) (e:Env) (h:Heap) (x:Ex) (e':Env) (h':Heap),iter f n e h=some (x,e',h')->Keeps h h'
 |0,_,_,_,_,_,hi=>by simp [iter] at hi
 |n+1,e,h,x,e',h',hi=>by
  simp only [iter] at hi
  split at hi
  .rename_i e1 h1 h2
   exact (hf _ _ _ _ _ h2).trans (zcX hf n _ _ _ _ _ hi)
  .exact hf _ _ _ _ _ hi

theorem zb3 {l:Nat} {e e':Env} {x:Ex} (hev:za1 l e h=some (x,e',h')):Keeps h h':=by
 unfold za1 at hev
 split at hev
 .rename_i hg
  split at hev
  .cases hev
  .split at hev
   .cases hev;exact .set _ (Heap.lt_of_get hg)
   .cases hev;exact .set _ (Heap.lt_of_get hg)
   .cases hev;exact .set _ (Heap.lt_of_get hg)
   .cases hev
 .cases hev
theorem zfS {C:Fn->List Vly->Heap->Option (Vly × Heap)} (hC:zcz C) {rd:Option Nat} {g:Vly} {ps:List Tmp} {assign body:Code} {e e':Env} {x:Ex} (hev:zeM T C rd g ps assign body e h=some (x,e',h')):Keeps h h':=by
 unfold zeM at hev
 split at hev
 .split at hev
  .split at hev
   .rename_i hc
    exact ((Keeps.push _ _).trans (hC _ _ _ _ _ hc)).trans (zb3 hev)
   .cases hev
  .cases hev
 .cases hev

theorem zap {C:Fn->List Vly->Heap->Option (Vly × Heap)} {D:Array Oper->Env->Heap->Option (Env × Heap)} (hC:zcz C) (hD:zg6 D) (rd:Option Nat) (fuel:Nat):∀ (c:Code) (e:Env) (h:Heap) (x:Ex) (e':Env) (h':Heap),zab P T C D rd fuel c e h=some (x,e',h')->Keeps h h':=by
 intro c
 induction c with
 |skip=>intro e h x e' h' hev;simp only [zab,Option.some.injEq,Prod.mk.injEq] at hev;obtain ⟨_,_,rfl⟩:=hev;exact .refl _
 |region id ops d =>
  intro e h x e' h' hev
  simp only [zab,Option.map_eq_some_iff,Prod.exists,Prod.mk.injEq] at hev
  obtain ⟨e1,h1,hr,_,rfl,rfl⟩:=hev
  split at hr
  .exact hD _ _ _ _ _ hr
  .exact zbd hC _ _ _ _ _ hr
 |seq a b iha ihb =>
  intro e h x e' h' hev
  simp only [zab] at hev
  split at hev
  .rename_i e1 h1 h2
   exact (iha _ _ _ _ _ h2).trans (ihb _ _ _ _ _ hev)
  .exact iha _ _ _ _ _ hev
 |cond c a b iha ihb =>
  intro e h x e' h' hev
  simp only [zab] at hev
  split at hev
  .exact iha _ _ _ _ _ hev
  .exact ihb _ _ _ _ _ hev
  .cases hev
 |block id c ih =>
  intro e h x e' h' hev
  simp only [zab] at hev
  split at hev
  .rename_i i e1 h1 h2
   have:=ih _ _ _ _ _ h2
   split at hev <;> (simp only [Option.some.injEq,Prod.mk.injEq] at hev;obtain ⟨_,_,rfl⟩:=hev;exact this)
  .exact ih _ _ _ _ _ hev
 |loop c ih=>intro e h x e' h' hev;simp only [zab] at hev;exact zcX ih _ _ _ _ _ _ hev
 |exit id=>intro e h x e' h' hev;simp only [zab,Option.some.injEq,Prod.mk.injEq] at hev;obtain ⟨_,_,rfl⟩:=hev;exact .refl _
 |ret=>intro e h x e' h' hev;simp only [zab,Option.some.injEq,Prod.mk.injEq] at hev;obtain ⟨_,_,rfl⟩:=hev;exact .refl _
 |label l=>intro e h x e' h' hev;simp only [zab,Option.some.injEq,Prod.mk.injEq] at hev;obtain ⟨_,_,rfl⟩:=hev;exact .refl _
 |rangeFunc f ps a b _ _=>intro e h x e' h' hev;exact zfS hC hev
 |scope c ih=>intro e h x e' h' hev;exact ih _ _ _ _ _ hev
 |goto l=>intro e h x e' h' hev;simp [zab] at hev
 |refuse s=>intro e h x e' h' hev;simp [zab] at hev

def zag:Code->Bool
 | .seq a b=>zag a && zag b
 | .cond _ a b=>zag a && zag b
 | .block _ c=>zag c
 | .loop c=>zag c
 | .scope c=>zag c
 | .rangeFunc _ _ _ _=>false
 |_=>true
def Marks (n0:Nat) (B:List Deferred) (nr:Bool) (ρ:Rho) (w:World) (ds:List Deferred):Prop :=
 ∃ rs:List Nat,ds=rs.map (λr=>{ target:=.collected r,args:=#[] })++B/\rs.Nodup/\(nr=true->rs=[])/\∀ r∈rs,n0<=r/\w.heap[r]? = some (.deferred (some []))/\∀ A L,ρ A=some L->L.b≠r
theorem Marks.nil {n0:Nat} {B:List Deferred} {nr:Bool}:Marks n0 B nr ρ w B:=⟨[],rfl,.nil,λ_=>rfl,by intro r hr;cases hr⟩
theorem Marks.step {n0:Nat} {B:List Deferred} {nr:Bool} {ρ':Rho} {w':World} {ds:List Deferred} (hm:Marks n0 B nr ρ w ds) (f:Fr ρ ρ' h h' w w'):Marks n0 B nr ρ' w' ds:=by
 obtain ⟨rs,h1,h2,h0,h3⟩:=hm
 refine ⟨rs,h1,h2,h0,λr hr=>?_⟩
 obtain ⟨a1,a2,a3⟩:=h3 r hr
 have hlt:r < w.heap.size:=(Array.getElem?_eq_some_iff.1 a2).1
 refine ⟨a1,(f.keep r hlt λA L hA hb=>(a3 A L hA hb).elim).trans a2,λA L hA hb=>?_⟩
 cases hρ:ρ A with
 |some L0 =>
  have e:L0=L:=by have:=f.grow A L0 hρ;rw [hA] at this;exact (Option.some.inj this).symm
  subst e
  exact a3 A L0 hρ hb
 |none =>
  rcases (f.fresh A L hA hρ).2.2 with h4|⟨A0,L0,h4,h5,_⟩
  .omega
  .exact a3 A0 L0 h4 (h5.trans hb)

def RdR (ρ:Rho):Option Nat->Option Nat->Prop
 |none,none=>True
 |some A,some l=>∃ L,ρ A=some L/\L.b=l
 |_,_=>False
theorem RdR.mono {ρ':Rho} (hg:∀ A L,ρ A=some L->ρ' A=some L):∀ {rd rl:Option Nat},RdR ρ rd rl->RdR ρ' rd rl
 |none,none,_=>trivial
 |some _,some _,⟨L,h1,h2⟩=>⟨L,hg _ _ h1,h2⟩
 |none,some _,hh=>hh.elim
 |some _,none,hh=>hh.elim

theorem za0 {b:Frame} {a:Act} {k:List Item} {cs:List Frame} {c:Code}:step P (lone (b.atR a (.code (.scope c)::k)) cs w)=.next (lone (b.atR a (.code c::.inScope c::k)) cs w) :=
 step_lone_go (by simp [stepG,stepG.exec,Frame.atR])
theorem zfj {b:Frame} {a:Act} {k:List Item} {cs:List Frame} {c:Code}:step P (lone (b.atR a (.inScope c::k)) cs w)=.next (lone (b.atR a k) cs w) :=
 step_lone_go (by simp [stepG,stepG.exec,Frame.atR])
theorem zcy {F:Fence} {n:Nat} {Q:Exit->Act->World->Prop} {a:Act} {c:Code} (hc:c.wpIn F n P (Exit.noGoto Q) a w):(Code.scope c).wpIn F n P Q a w:=by
 intro b k cs hro hb hr
 have h0:(lone (b.atR a (.code (.scope c)::k)) cs w).fenced P F:=fenced_calm hb hr rfl
 obtain ⟨e,a₁,w₁,hq,harr⟩:=hc b (.inScope c::k) cs hro hb hr
 cases e with
 |normal=>exact ⟨.normal,a₁,w₁,hq,.head h0 za0 (StepsIn.trans harr (.one (fenced_calm hb hr rfl) zfj))⟩
 |exit id =>
  have hx:exitTo id (.inScope c::k)=exitTo id k:=by simp [exitTo]
  exact ⟨.exit id,a₁,w₁,hq,λk' hk=>.head h0 za0 (harr.1 k' (by rw [hx];exact hk)),
   λhr' hk=>let ⟨k₁,h1,h2⟩:=harr.2 hr' (by rw [hx];exact hk);⟨k₁,h1,.head h0 za0 h2⟩⟩
 |goto l=>exact hq.elim
 |ret=>exact ⟨_,a₁,w₁,hq,.of_steps (.one h0 za0) harr⟩
 |panic ch=>exact ⟨_,a₁,w₁,hq,.of_steps (.one h0 za0) harr⟩
 |outgrown=>exact ⟨_,a₁,w₁,hq,.of_steps (.one h0 za0) harr⟩

theorem zbS (w:World) (r:Nat) (o:Obj):(w.putObj r o).heap=w.heap.setIfInBounds r o:=rfl
theorem zhm {r:Nat} {o:Obj} (hlt:r < w.heap.size):(w.putObj r o).heap[r]? = some o:=by rw [zbS];simp [hlt]
theorem zbz {r k:Nat} {o:Obj} (hk:k≠r):(w.putObj r o).heap[k]? = w.heap[k]? := by
 rw [zbS,Array.getElem?_setIfInBounds_ne (Ne.symm hk)]

theorem zbH (hs:Sim ρ h w) {A:Nat} {L:Loc} (hA:ρ A=some L) {env:List Vly} {ps:List Tmp} {assign body:Code} {st:LoopState} {pend:Option Code} (hg:h.get A=some (.loop env ps assign body st pend)) :
 ∃ l:Loop,w.heap[L.b]? = some (.loop l)/\l.state=st/\l.pending=pend/\l.params.toList=ps/\l.assign=assign/\l.body=body/\EnvR ρ env l.tmps/\CodeOk ρ assign/\CodeOk ρ body /\
   ∀ st' pend',Fr ρ ρ h (h.set A (.loop env ps assign body st' pend')) w (w.putObj L.b (.loop { l with state:=st',pending:=pend' }))/\Sim ρ (h.set A (.loop env ps assign body st' pend')) (w.putObj L.b (.loop { l with state:=st',pending:=pend' })):=by
 have hb:=hs.blk A L hA
 rw [hg] at hb
 obtain ⟨l,h1,h2,h3,h4,h5,h6,h7,h8,h9⟩:=hb
 refine ⟨l,h1,h2,h3,h4,h5,h6,h7,h8,h9,λst' pend'=>?_⟩
 have hlt:L.b < w.heap.size:=(Array.getElem?_eq_some_iff.1 h1).1
 exact zbm hs hA hg (by simp) (by simp) rfl rfl rfl (by rw [zbS];simp) (λq hq=>zbz hq) ⟨_,zhm hlt,rfl,rfl,h4,h5,h6,h7,h8,h9⟩

theorem zcn (hT:T.Fits P) {C:Fn->List Vly->Heap->Option (Vly × Heap)} {D:Array Oper->Env->Heap->Option (Env × Heap)} {gs:List Nat} (hC:CS P gs C) (hg:zcz C) (hD:DS P gs D) (hdg:zg6 D) (rd rl:Option Nat) (n0:Nat) (B:List Deferred) (nr:Bool) (fuel:Nat) :
 ∀ (c:Code) (e:Env) (h:Heap) (x:Ex) (e':Env) (h':Heap) (ρ:Rho) (a:Act) (w:World) (Q:Exit->Act->World->Prop),zab P T C D rd fuel c e h=some (x,e',h')->CodeOk ρ c->(nr=true->zag c=true)->GlobOk gs ρ->Sim ρ h w->Free ρ h h'->EnvR ρ e a.tmps->Marks n0 B nr ρ w a.defers->RdR ρ rd rl->n0<=w.heap.size ->
   (∀ ρ' a' w',Fr ρ ρ' h h' w w'->Sim ρ' h' w'->EnvR ρ' e' a'.tmps->Marks n0 B nr ρ' w' a'.defers->Q x.to a' w')->c.wpIn (WR rl) 0 P Q a w:=by
 intro c
 induction c with
 |skip =>
  intro e h x e' h' ρ a w Q hev _ _ _ hs _ he hd _ _ hQ
  simp only [zab,Option.some.injEq,Prod.mk.injEq] at hev
  obtain ⟨rfl,rfl,rfl⟩:=hev
  exact wpIn_skip (hQ ρ a w (Fr.refl _ _ _) hs he hd)
 |region id ops d =>
  intro e h x e' h' ρ a w Q hev hok _ hG hs hf he hd _ _ hQ
  simp only [zab,Option.map_eq_some_iff,Prod.exists,Prod.mk.injEq] at hev
  obtain ⟨e1,h1,hr,rfl,rfl,rfl⟩:=hev
  have hQ':∀ ρ' a' w',Fr ρ ρ' h h1 w w'->Sim ρ' h1 w'->EnvR ρ' e1 a'.tmps->a'.defers=a.defers->Q .normal a' w':=λρ' a' w' f1 s1 r1 d1=>hQ ρ' a' w' f1 s1 r1 (by rw [d1];exact hd.step f1)
  cases d with
  |true =>
   simp only [if_true] at hr
   exact hD rl id ops e e1 h h1 ρ a w Q hr hok hG hs hf he hQ'
  |false =>
   simp only [Bool.false_eq_true,if_false] at hr
   exact wpIn_region_list (zbN hT hC hg ops.toList e e1 h h1 ρ a w hr hok hG hs hf he rfl hQ')
 |seq c1 c2 ih1 ih2 =>
  intro e h x e' h' ρ a w Q hev hok hnr hG hs hf he hd hrd hn hQ
  simp only [zab] at hev
  have hnr1:nr=true->zag c1=true:=λq=>by have:=hnr q;simp only [zag,Bool.and_eq_true] at this;exact this.1
  have hnr2:nr=true->zag c2=true:=λq=>by have:=hnr q;simp only [zag,Bool.and_eq_true] at this;exact this.2
  refine wpIn_seq ?_
  split at hev
  .rename_i e1 h1 h2
   have hsz:=(zap hg hdg rd fuel c2 _ _ _ _ _ hev).size
   refine ih1 e h .normal e1 h1 ρ a w _ h2 hok.1 hnr1 hG hs (hf.left hsz) he hd hrd hn λρ1 a1 w1 f1 s1 r1 d1=>?_
   exact ih2 e1 h1 x e' h' ρ1 a1 w1 Q hev (hok.2.mono f1.grow) hnr2 (hG.mono f1.grow) s1 (hf.right f1) r1 d1 (hrd.mono f1.grow) (Nat.le_trans hn f1.size) λρ2 a2 w2 f2 s2 r2 d2=>hQ ρ2 a2 w2 (f1.trans f2) s2 r2 d2
  .rename_i hne
   refine ih1 e h x e' h' ρ a w _ hev hok.1 hnr1 hG hs hf he hd hrd hn λρ1 a1 w1 f1 s1 r1 d1=>?_
   cases x with
   |normal=>exact (hne e' h' hev).elim
   |exit id=>exact hQ ρ1 a1 w1 f1 s1 r1 d1
   |ret=>exact hQ ρ1 a1 w1 f1 s1 r1 d1
 |cond c c1 c2 ih1 ih2 =>
  intro e h x e' h' ρ a w Q hev hok hnr hG hs hf he hd hrd hn hQ
  have hc:=he.operand hok.1
  have hnr1:nr=true->zag c1=true:=λq=>by have:=hnr q;simp only [zag,Bool.and_eq_true] at this;exact this.1
  have hnr2:nr=true->zag c2=true:=λq=>by have:=hnr q;simp only [zag,Bool.and_eq_true] at this;exact this.2
  simp only [zab] at hev
  split at hev
  .rename_i hb
   rw [hb] at hc
   exact wpIn_cond_true (hc.eq_plain rfl) (ih1 e h x e' h' ρ a w Q hev hok.2.1 hnr1 hG hs hf he hd hrd hn hQ)
  .rename_i hb
   rw [hb] at hc
   exact wpIn_cond_false (hc.eq_plain rfl) (ih2 e h x e' h' ρ a w Q hev hok.2.2 hnr2 hG hs hf he hd hrd hn hQ)
  .cases hev
 |block id c ih =>
  intro e h x e' h' ρ a w Q hev hok hnr hG hs hf he hd hrd hn hQ
  simp only [zab] at hev
  refine wpIn_block ?_
  split at hev
  .rename_i i e1 h1 h2
   split at hev
   .rename_i hi
    simp only [Option.some.injEq,Prod.mk.injEq] at hev
    obtain ⟨rfl,rfl,rfl⟩:=hev
    refine ih e h (.exit i) e1 h1 ρ a w _ h2 hok hnr hG hs hf he hd hrd hn λρ1 a1 w1 f1 s1 r1 d1=>?_
    simp only [Ex.to,Exit.inBlock,if_pos hi]
    exact hQ ρ1 a1 w1 f1 s1 r1 d1
   .rename_i hi
    simp only [Option.some.injEq,Prod.mk.injEq] at hev
    obtain ⟨rfl,rfl,rfl⟩:=hev
    refine ih e h (.exit i) e1 h1 ρ a w _ h2 hok hnr hG hs hf he hd hrd hn λρ1 a1 w1 f1 s1 r1 d1=>?_
    simp only [Ex.to,Exit.inBlock,if_neg hi]
    exact hQ ρ1 a1 w1 f1 s1 r1 d1
  .rename_i hne
   refine ih e h x e' h' ρ a w _ hev hok hnr hG hs hf he hd hrd hn λρ1 a1 w1 f1 s1 r1 d1=>?_
   cases x with
   |normal=>exact hQ ρ1 a1 w1 f1 s1 r1 d1
   |exit i=>exact (hne i e' h' hev).elim
   |ret=>exact hQ ρ1 a1 w1 f1 s1 r1 d1
 |loop c ih =>
  intro e h x e' h' ρ a w Q hev hok hnr hG hs hf he hd hrd hn hQ
  simp only [zab] at hev
  refine wpIn_loop_rounds fuel ?_
  have key:∀ (n:Nat) (e:Env) (h:Heap) (ρ:Rho) (a:Act) (w:World),iter (zab P T C D rd fuel c) n e h=some (x,e',h')->CodeOk ρ c->GlobOk gs ρ->Sim ρ h w->Free ρ h h'->EnvR ρ e a.tmps->Marks n0 B nr ρ w a.defers->RdR ρ rd rl->n0<=w.heap.size ->
   (∀ ρ' a' w',Fr ρ ρ' h h' w w'->Sim ρ' h' w'->EnvR ρ' e' a'.tmps->Marks n0 B nr ρ' w' a'.defers->Q x.to a' w')->Code.roundsIn (WR rl) 0 P c Q n a w:=by
   intro n
   induction n with
   |zero=>intro e h ρ a w hi;simp [iter] at hi
   |succ n ihn =>
    intro e h ρ a w hi hok hG hs hf he hd hrd hn hQ
    simp only [iter] at hi
    rw [roundsIn_succ]
    split at hi
    .rename_i e1 h1 h2
     have hsz:=(zcX (zap (P:=P) (T:=T) hg hdg rd fuel c) n _ _ _ _ _ hi).size
     refine ih e h .normal e1 h1 ρ a w _ h2 hok hnr hG hs (hf.left hsz) he hd hrd hn λρ1 a1 w1 f1 s1 r1 d1=>?_
     exact ihn e1 h1 ρ1 a1 w1 hi (hok.mono f1.grow) (hG.mono f1.grow) s1 (hf.right f1) r1 d1 (hrd.mono f1.grow) (Nat.le_trans hn f1.size) λρ2 a2 w2 f2 s2 r2 d2=>hQ ρ2 a2 w2 (f1.trans f2) s2 r2 d2
    .rename_i hne
     refine ih e h x e' h' ρ a w _ hi hok hnr hG hs hf he hd hrd hn λρ1 a1 w1 f1 s1 r1 d1=>?_
     cases x with
     |normal=>exact (hne e' h' hi).elim
     |exit id=>exact hQ ρ1 a1 w1 f1 s1 r1 d1
     |ret=>exact hQ ρ1 a1 w1 f1 s1 r1 d1
  exact key fuel e h ρ a w hev hok hG hs hf he hd hrd hn hQ
 |exit id =>
  intro e h x e' h' ρ a w Q hev _ _ _ hs _ he hd _ _ hQ
  simp only [zab,Option.some.injEq,Prod.mk.injEq] at hev
  obtain ⟨rfl,rfl,rfl⟩:=hev
  exact wpIn_exit (hQ ρ a w (Fr.refl _ _ _) hs he hd)
 |ret =>
  intro e h x e' h' ρ a w Q hev _ _ _ hs _ he hd _ _ hQ
  simp only [zab,Option.some.injEq,Prod.mk.injEq] at hev
  obtain ⟨rfl,rfl,rfl⟩:=hev
  exact wpIn_ret (hQ ρ a w (Fr.refl _ _ _) hs he hd)
 |label l =>
  intro e h x e' h' ρ a w Q hev _ _ _ hs _ he hd _ _ hQ
  simp only [zab,Option.some.injEq,Prod.mk.injEq] at hev
  obtain ⟨rfl,rfl,rfl⟩:=hev
  exact wpIn_label (hQ ρ a w (Fr.refl _ _ _) hs he hd)
 |rangeFunc g ps assign body _ _ =>
  intro e h x e' h' ρ a w Q hev hok hnr hG hs hf he hd hrd hn hQ
  simp only [zab] at hev
  have hnr0:¬ nr=true:=λq=>by have:=hnr q;simp [zag] at this
  have hgv:=he.operand hok.1
  unfold zeM at hev
  split at hev
  .rename_i f first captured hge
   split at hev
   .rename_i har
    simp only [Bool.and_eq_true] at har
    obtain ⟨har,hbody⟩:=har
    split at hev
    .rename_i r0 h2 hcall
     rw [hge] at hgv
     generalize hag:a.eval g=ag at hgv
     cases hgv with
     |func _ q1 q2 q3 q4 =>
      rename_i first' captured'
      have hv1:VRs ρ first.toList first'.toList:=⟨by simpa using q1,λi x y hx hy=>q3 i x y (by simpa using hx) (by simpa using hy)⟩
      have hv2:VRs ρ captured.toList captured'.toList:=⟨by simpa using q2,λi x y hx hy=>q4 i x y (by simpa using hx) (by simpa using hy)⟩
      have hk2:=hg _ _ _ _ _ hcall
      have hk3:=zb3 hev
      have hpush:(h.push (.loop e ps.toList assign body .ready none)).size=h.size+1:=rfl
      have hsz1:=hk2.size
      have hsz2:=hk3.size
      have hnone:ρ h.size=none:=hf h.size (Nat.le_refl _) (by omega)
      refine wpIn_rangeFunc λfn _=>?_
      have henter:∃ (l:Nat) (mark:List Deferred) (w1:World) (lo:Loop),(Instr.enterLoop fn a.tmps ps assign body (WR rl).round).run P w=.ok (l,mark) w1/\w.heap.size<=l/\w1.heap[l]? = some (.loop lo) /\
       lo.state=.ready/\lo.pending=none/\lo.params=ps/\lo.assign=assign/\lo.body=body/\lo.tmps=a.tmps/\(∀ k,k < w.heap.size->w1.heap[k]? = w.heap[k]?)/\w.heap.size<=w1.heap.size/\w1.os=w.os/\w1.tape=w.tape/\w1.output=w.output /\
       (∀ ρ1,(∀ A L,ρ1 A=some L->ρ A=some L\/L.b=l)->Marks n0 B nr ρ1 w1 (mark++a.defers)):=by
       cases rl with
       |none =>
        refine ⟨_,_,_,{ state:=.ready,pending:=none,fn,tmps:=a.tmps,params:=ps,assign,body,defers:=w.heap.size },run_enterLoop_outer fn a.tmps ps assign body,Nat.le_succ _,by rw [World.alloc_heap,World.alloc_heap,Array.getElem?_push,if_pos (by simp)],rfl,rfl,rfl,rfl,rfl,rfl,?_,by simp [World.alloc_heap];omega,rfl,rfl,rfl,?_⟩
        .intro k hk
         rw [World.alloc_heap,World.alloc_heap,Array.getElem?_push,if_neg (by simp;omega),Array.getElem?_push,if_neg (by omega)]
        .intro ρ1 hρ1
         obtain ⟨rs,m1,m2,_,m3⟩:=hd
         refine ⟨w.heap.size::rs,by simp [m1],?_,λq=>(hnr0 q).elim,?_⟩
         .refine List.nodup_cons.2 ⟨λhmem=>?_,m2⟩
          have:=(Array.getElem?_eq_some_iff.1 (m3 _ hmem).2.1).1
          omega
         .intro r hr
          rcases List.mem_cons.1 hr with rfl|hr
          .refine ⟨hn,by simp [World.alloc_heap,Array.getElem?_push],λA L hA hb=>?_⟩
           rcases hρ1 A L hA with h4|h4
           .have:=hs.lt h4;omega
           .omega
          .obtain ⟨a1,a2,a3⟩:=m3 r hr
           have hlt:r < w.heap.size:=(Array.getElem?_eq_some_iff.1 a2).1
           refine ⟨a1,?_,λA L hA hb=>?_⟩
           .rw [World.alloc_heap,World.alloc_heap,Array.getElem?_push,if_neg (by simp;omega),Array.getElem?_push,if_neg (by omega)]
            exact a2
           .rcases hρ1 A L hA with h4|h4
            .exact a3 A L h4 hb
            .omega
       |some l0 =>
        cases rd with
        |none=>exact hrd.elim
        |some A0 =>
         obtain ⟨L0,hA0,rfl⟩:=hrd
         have hrec:∃ lo:Loop,w.heap[L0.b]? = some (.loop lo):=by
          simp only [zdg] at har
          split at har
          .rename_i hg0
           obtain ⟨lo,h4,_⟩:=zbH hs hA0 hg0
           exact ⟨lo,h4⟩
          .cases har
         obtain ⟨lo,hlo⟩:=hrec
         have hrun:(Instr.enterLoop fn a.tmps ps assign body (some L0.b)).run P w=.ok (w.heap.size,[]) (w.alloc (.loop { state:=.ready,pending:=none,fn,tmps:=a.tmps,params:=ps,assign,body,defers:=lo.defers })):=by
          unfold Instr.enterLoop
          simp only [Sem.run_bind,run_getLoop hlo,Sem.run_pure,Result.andThen,run_newObj_alloc]
         refine ⟨_,_,_,{ state:=.ready,pending:=none,fn,tmps:=a.tmps,params:=ps,assign,body,defers:=lo.defers },hrun,Nat.le_refl _,by simp [World.alloc_heap],rfl,rfl,rfl,rfl,rfl,rfl,?_,by simp [World.alloc_heap],rfl,rfl,rfl,?_⟩
         .intro k hk
          rw [World.alloc_heap,Array.getElem?_push,if_neg (by omega)]
         .intro ρ1 hρ1
          obtain ⟨rs,m1,m2,_,m3⟩:=hd
          refine ⟨rs,by simp [m1],m2,λq=>(hnr0 q).elim,?_⟩
          intro r hr
          obtain ⟨a1,a2,a3⟩:=m3 r hr
          have hlt:r < w.heap.size:=(Array.getElem?_eq_some_iff.1 a2).1
          refine ⟨a1,?_,λA L hA hb=>?_⟩
          .rw [World.alloc_heap,Array.getElem?_push,if_neg (by omega)]
           exact a2
          .rcases hρ1 A L hA with h4|h4
           .exact a3 A L h4 hb
           .omega
      obtain ⟨l,mark,w1,lo,henter,hl,hw1,l1,l2,l3,l4,l5,l6,hold,hsz,hos,htape,hout,hmark⟩:=henter
      obtain ⟨ρ1,hρ1,f1,s1⟩:=zbr (W:=w1) (L:=⟨l,0,0⟩) (b:=.loop e ps.toList assign body .ready none) hs hnone hold hsz hos htape hout hl
       (λρ' hgrow=>⟨lo,hw1,l1,l2,by rw [l3],l4,l5,by rw [l6];exact he.mono hgrow,hok.2.1.mono hgrow,hok.2.2.mono hgrow⟩)
      have hm1:Marks n0 B nr ρ1 w1 (mark++a.defers):=hmark ρ1 λA L hA=>by
       cases hρ:ρ A with
       |some L0 =>
        have e:L0=L:=by have:=f1.grow A L0 hρ;rw [hA] at this;exact (Option.some.inj this).symm
        subst e
        exact .inl rfl
       |none =>
        have h4:=(f1.fresh A L hA hρ)
        have h5:A=h.size:=by have:=h4.1;have:=h4.2.1;omega
        subst h5
        rw [hρ1] at hA
        cases hA
        exact .inr rfl
      have hfree1:Free ρ1 (h.push (.loop e ps.toList assign body .ready none)) h2:=(hf.left hsz2).right f1
      have hargs:VRs ρ1 (first.toList++[.func (.yield h.size) #[] #[]]++captured.toList) (first'++#[Value.func (Fn.yield l) #[] #[]]++captured').toList:=by
       have:=((hv1.mono f1.grow).append (VRs.cons (VR.yield hρ1) (.nil ρ1))).append (hv2.mono f1.grow)
       simpa using this
      have hres:(resolve a.eval (rangeCall g l) 0).run P w1=.ok { target:=.fn (.func f) captured',args:=first'++#[Value.func (Fn.yield l) #[] #[]] } w1:=by
       have hcv:a.eval (.const (.func (.yield l) #[] #[]))=.func (.yield l) #[] #[]:=rfl
       simp [resolve,hag,hcv,Deferred.ofValue]
      have hinv:∀ w,(invoke (.fn (.func f) captured') (first'++#[Value.func (Fn.yield l) #[] #[]])).run P w=(callFunc f (first'++#[Value.func (Fn.yield l) #[] #[]]++captured')).run P w:=λw=>rfl
      rcases hC.fn f _ _ _ _ hcall ρ1 w1 (first'++#[Value.func (Fn.yield l) #[] #[]]++captured') (hG.mono f1.grow) s1 hfree1 hargs with ⟨_,_,_,hval,_⟩|⟨hent,hcalls⟩
      .exfalso
       unfold ze3 at hbody
       split at hbody
       .rename_i fn0 hfn0
        split at hbody
        .rename_i c0 hc0
         obtain ⟨hP,hname,_⟩:=hT.fn f fn0 hfn0
         have hname':¬ fn0.name="runtime.NumGoroutine":=by simpa using hname
         simp [callFunc,hP,hname',hc0] at hval
        .cases hbody
       .cases hbody
      .refine ⟨l,mark,w1,_,w1,f,_,w1,henter,hres,λ_ _=>trivial,(hinv w1).trans hent,(λhh=>by cases hh),zeB (hcalls.mono ?_)⟩
       rintro ed w3 ⟨ρ3,u,rfl,f3,s3,_⟩
       unfold za1 at hev
       split at hev
       .rename_i env ps2 as2 bd2 st pend hgl
        have hρ3:ρ3 h.size=some ⟨l,0,0⟩:=f3.grow _ _ hρ1
        obtain ⟨lo3,g1,g2,g3,_,_,_,_,_,_,g4⟩:=zbH s3 hρ3 hgl
        obtain ⟨f4,s4⟩:=g4 .exhausted pend
        have hfin:st≠.busy->∀ x1:Ex,x1=x->e=e'->h2.set h.size (.loop env ps2 as2 bd2 .exhausted pend)=h'->(Instr.endLoop l).run P w3=.ok pend (w3.putObj l (.loop { lo3 with state:=.exhausted,pending:=pend }))/\Q x.to { a with defers:=mark++a.defers } (w3.putObj l (.loop { lo3 with state:=.exhausted,pending:=pend })):=by
         intro hst x1 hx1 he1 hh1
         subst hx1 he1 hh1
         have hlo:({ lo3 with state:=LoopState.exhausted,pending:=pend }:Loop)={ lo3 with state:=LoopState.exhausted }:=by
          subst g3;rfl
         refine ⟨?_,hQ ρ3 { a with defers:=mark++a.defers } _ ((f1.trans f3).trans f4) s4 (he.mono (f1.trans f3).grow) ((hm1.step f3).step f4)⟩
         rw [hlo,<- g3]
         exact run_endLoop g1 (by rw [g2];exact hst)
        split at hev
        .cases hev
        .rename_i hst
         split at hev
         .simp only [Option.some.injEq,Prod.mk.injEq] at hev
          obtain ⟨rfl,h5,h6⟩:=hev
          obtain ⟨k1,k2⟩:=hfin hst _ rfl h5 h6
          exact ⟨none,_,k1,k2⟩
         .simp only [Option.some.injEq,Prod.mk.injEq] at hev
          obtain ⟨rfl,h5,h6⟩:=hev
          obtain ⟨k1,k2⟩:=hfin hst _ rfl h5 h6
          exact ⟨_,_,k1,wpIn_exit k2⟩
         .simp only [Option.some.injEq,Prod.mk.injEq] at hev
          obtain ⟨rfl,h5,h6⟩:=hev
          obtain ⟨k1,k2⟩:=hfin hst _ rfl h5 h6
          exact ⟨_,_,k1,wpIn_ret k2⟩
         .cases hev
       .cases hev
    .cases hev
   .cases hev
  .cases hev
 |scope c ih =>
  intro e h x e' h' ρ a w Q hev hok hnr hG hs hf he hd hrd hn hQ
  simp only [zab] at hev
  refine zcy (ih e h x e' h' ρ a w _ hev hok hnr hG hs hf he hd hrd hn λρ1 a1 w1 f1 s1 r1 d1=>?_)
  have:=hQ ρ1 a1 w1 f1 s1 r1 d1
  cases x <;> exact this
 |goto l=>intro e h x e' h' ρ a w Q hev;simp [zab] at hev
 |refuse s=>intro e h x e' h' ρ a w Q hev;simp [zab] at hev

def zfT (tmps:Array Vly):ResultVar->Sem Vly
 | .tmp t=>pure (tmps.getD t undef)
 | .cell a t=>do loadVar t (<- asAddr (tmps.getD a undef))

theorem zg1 (fn:Func) (tmps:Array Vly):results fn tmps=(do let vs <- fn.results.mapM (zfT tmps);pure (if h:vs.size=1 then vs[0] else .tuple vs)):=by
 unfold results
 congr 2

theorem zfe (hT:T.Fits P) (hs:Sim ρ h w) {e:Env} {tmps:Array Vly} (he:EnvR ρ e tmps):∀ {r:ResultVar} {v:Vly},zbt T e h r=some v->∃ u,(zfT tmps r).run P w=.ok u w/\VR ρ v u
 | .tmp t,v,hr=>by simp only [zbt,Option.some.injEq] at hr;subst hr;exact ⟨_,rfl,he.2 t⟩
 | .cell a t,v,hr=>by
  simp only [zbt] at hr
  have hv:=he.2 a
  simp only [zfT]
  generalize e.get a=x at hv hr
  generalize tmps.getD a undef=y at hv
  obtain ⟨u,h1,h2⟩:=zcx hT hs hv hr
  refine ⟨u,?_,h2⟩
  rw [<- h1]
  cases hv <;> first|(simp [zb1] at hr;done)|simp [Instr.loadAt,Instr.sureAddr,asAddr]

theorem zbC (hT:T.Fits P) (hs:Sim ρ h w) {fn:Func} {e:Env} {tmps:Array Vly} (he:EnvR ρ e tmps) {v:Vly} (hr:zao T fn e h=some v) :
 ∃ u,(results fn tmps).run P w=.ok u w/\VR ρ v u:=by
 have hlist:∀ (rs:List ResultVar) (vs:List Vly),rs.mapM (zbt T e h)=some vs->∃ us:List Vly,VRs ρ vs us /\
  (rs.mapM (zfT tmps)).run P w=.ok us w:=by
  intro rs
  induction rs with
  |nil=>intro vs hvs;simp at hvs;subst hvs;exact ⟨[],.nil ρ,by simp⟩
  |cons r rs ih =>
   intro vs hvs
   rw [List.mapM_cons] at hvs
   simp only [Option.bind_eq_bind,Option.bind_eq_some_iff,Option.pure_def,Option.some.injEq] at hvs
   obtain ⟨v1,hv1,vs',hvs',rfl⟩:=hvs
   obtain ⟨u1,h1,h2⟩:=zfe hT hs he hv1
   obtain ⟨us,h3,h4⟩:=ih vs' hvs'
   refine ⟨u1::us,.cons h2 h3,?_⟩
   rw [List.mapM_cons]
   simp only [Sem.run_bind,h1,Result.andThen_ok,h4,Sem.run_pure]
 have hmap:∀ us:List Vly,(fn.results.toList.mapM (zfT tmps)).run P w=.ok us w ->
  (results fn tmps).run P w=.ok (if h:us.toArray.size=1 then us.toArray[0] else .tuple us.toArray) w:=by
  intro us h1
  rw [zg1,Array.mapM_eq_mapM_toList]
  simp only [Sem.run_bind,Sem.run_map,h1,Result.andThen_ok,Sem.run_pure]
 unfold zao at hr
 split at hr
 .rename_i r hrs
  obtain ⟨us,h1,h2⟩:=hlist [r] [v] (by simp [hr])
  obtain ⟨u,us',rfl,hu,hn⟩:=h1.of_cons
  have:=hn.of_nil
  subst this
  refine ⟨u,?_,hu⟩
  have:=hmap [u] (by rw [hrs];exact h2)
  simpa using this
 .rename_i hne
  simp only [Option.map_eq_some_iff] at hr
  obtain ⟨vs,hvs,rfl⟩:=hr
  obtain ⟨us,h1,h2⟩:=hlist _ vs hvs
  refine ⟨.tuple us.toArray,?_,h1.toTuple⟩
  have:=hmap us h2
  rw [this]
  congr 1
  have hlen:us.length≠1:=by
   intro h1'
   have hl:fn.results.toList.length=us.length:=by
    have e1:vs.length=us.length:=h1.1
    have e2:∀ (rs:List ResultVar) (vs:List Vly),rs.mapM (zbt T e h)=some vs->rs.length=vs.length:=by
     intro rs
     induction rs with
     |nil=>intro vs hvs;simp at hvs;subst hvs;rfl
     |cons r rs ih =>
      intro vs hvs
      rw [List.mapM_cons] at hvs
      simp only [Option.bind_eq_bind,Option.bind_eq_some_iff,Option.pure_def,Option.some.injEq] at hvs
      obtain ⟨v1,hv1,vs',hvs',rfl⟩:=hvs
      simp [ih vs' hvs']
    rw [e2 _ _ hvs,e1]
   rw [h1'] at hl
   match hm:fn.results.toList,hl with
   | [r],_=>exact hne r hm
  rw [dif_neg (by simpa using hlen)]
end
end Go.Am
