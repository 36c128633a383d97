/- The plain machine: a deterministic evaluator of the model's code over a heap of its own. Definitions alone; no condition. -/
import GoSem.Step
namespace Go.Am

/-- A block of the plain heap. -/
inductive Blk where
  | row (cells : List Value) (elem : TypeId) (ro : Bool)
  | map (es : List MapEntry) (clock : Nat)
  | loop (env : List Value) (ps : List Tmp) (assign body : Code) (st : LoopState) (pend : Option Code)
  | dead

inductive Tr where
  | nil
  | node (v : Option Blk) (l r : Tr)

def Tr.get : Tr → Nat → Option Blk
  | .nil, _ => none
  | .node v l r, i => match i with
    | 0 => v
    | i + 1 => if i % 2 == 0 then l.get (i / 2) else r.get (i / 2)

def Tr.set : Nat → Tr → Nat → Blk → Tr
  | 0, t, _, _ => t
  | n + 1, t, i, o =>
    match t with
    | .nil => match i with
      | 0 => .node (some o) .nil .nil
      | i + 1 => if i % 2 == 0 then .node none (Tr.set n .nil (i / 2) o) .nil else .node none .nil (Tr.set n .nil (i / 2) o)
    | .node v l r => match i with
      | 0 => .node (some o) l r
      | i + 1 => if i % 2 == 0 then .node v (Tr.set n l (i / 2) o) r else .node v l (Tr.set n r (i / 2) o)

structure Heap where
  size : Nat
  tr : Tr
  low : Nat

def Heap.get (h : Heap) (A : Nat) : Option Blk := if A < h.size then h.tr.get A else none
def Heap.push (h : Heap) (b : Blk) : Heap := { h with size := h.size + 1, tr := h.tr.set (h.size + 1) h.size b }
def Heap.set (h : Heap) (A : Nat) (b : Blk) : Heap := { h with tr := h.tr.set (A + 1) A b, low := min h.low A }
def Heap.empty : Heap := ⟨0, .nil, 0⟩

/-- A capacity from G on is open: 'c / G' cells an element, 'at least c % G' elements. -/
def G : Nat := 18446744073709551616

abbrev Env := List Value
def Env.get : Env → Nat → Value
  | [], _ => undef
  | v :: _, 0 => v
  | _ :: r, n + 1 => Env.get r n
def Env.set : Env → Nat → Value → Env
  | [], _, _ => []
  | _ :: r, 0, v => v :: r
  | x :: r, n + 1, v => x :: Env.set r n v

/-- A value of one cell without an address. -/
def plain1 : Value → Bool
  | .bool _ | .int _ _ | .string _ | .nilFunc | .nilIface => true
  | .pointer none | .map none => true
  | .slice none n c => n == 0 && c == 0
  | .func (.func _) f c => f.isEmpty && c.isEmpty
  | _ => false
def plain : Value → Bool
  | .agg cs => cs.toList.all plain1
  | v => plain1 v
/-- A value that may lie in a cell. -/
def one : Value → Bool
  | .agg _ | .tuple _ => false
  | _ => true

def pureRun {α : Type} (P : Program) : Sem α → Option α
  | .pure a => some a
  | .program k => pureRun P (k P)
  | .mark _ k => pureRun P k
  | _ => none

/-- What is read off the program's tables. -/
structure Tab where
  desc : TypeId → Option TypeDesc
  /-- cells, bytes, the cells of the zero value -/
  info : TypeId → Option (Nat × Nat × List Value)
  fn : FuncId → Option Func
  /-- a type whose values are compared part by part -/
  cmp : TypeId → Bool
  /-- the zero value -/
  zero : TypeId → Option Value
  /-- the package's variables that the texts may name -/
  gs : List Nat
  /-- a type's method -/
  meth : TypeId → String → Option Method
  /-- a function that defers one call, once, on its way -/
  dfr : FuncId → Bool

section
variable (P : Program) (T : Tab)

def sizeA (t : TypeId) : Option Nat := (T.info t).map (·.1)
def aggA (t : TypeId) : Option Bool := (T.desc t).map fun
  | .struct _ | .array _ _ => true
  | _ => false

def cut (cs : List Value) (o n : Nat) : Option (List Value) := if o + n ≤ cs.length then some ((cs.drop o).take n) else none
def splice (cs : List Value) (o : Nat) (vs : List Value) : List Value := cs.take o ++ vs ++ cs.drop (o + vs.length)

def cellsAt (A o n : Nat) (h : Heap) : Option (List Value) :=
  match h.get A with
  | some (.row cs _ _) => cut cs o n
  | _ => none

def loadA (t : TypeId) (x : Value) (h : Heap) : Option Value :=
  match x with
  | .pointer (some ⟨A, o, none⟩) =>
    (aggA T t).bind fun g =>
      if g then (sizeA T t).bind fun n => (cellsAt A o n h).map fun l => .agg l.toArray
      else (cellsAt A o 1 h).bind fun l => l[0]?
  | _ => none

def writeA (A o : Nat) (vs : List Value) (h : Heap) : Option Heap :=
  match h.get A with
  | some (.row cs e false) => if o + vs.length ≤ cs.length && vs.all one then some (h.set A (.row (splice cs o vs) e false)) else none
  | _ => none

def storeA (t : TypeId) (x v : Value) (h : Heap) : Option Heap :=
  match x with
  | .pointer (some ⟨A, o, none⟩) => (sizeA T t).bind fun n => if v.cells.size = n then writeA A o v.cells.toList h else none
  | _ => none

def newRow (e : TypeId) (cs : List Value) (h : Heap) : Value × Heap := (.pointer (some ⟨h.size, 0, none⟩), h.push (.row cs e false))

/-- The cells of a slice's elements, 'k' cells each. -/
def cellsA (x : Value) (k : Nat) (h : Heap) : Option (List Value) :=
  match x with
  | .slice (some ⟨A, o, none⟩) n _ => if n * k = 0 then some [] else cellsAt A o (n * k) h
  | .slice none 0 _ => some []
  | _ => none

/-- What is appended or copied: so many elements, their cells. -/
def srcA (x : Value) (k : Nat) (h : Heap) : Option (Nat × List Value) :=
  match x with
  | .string b => if k = 1 then some (b.size, b.data.toList.map fun u => Value.int .u8 u.toNat) else none
  | .slice _ m _ => (cellsA x k h).map fun l => (m, l)
  | _ => none

def appendA (t : TypeId) (s x : Value) (h : Heap) : Option (Value × Heap) :=
  match T.desc t with
  | some (.slice e) => (T.info e).bind fun (k, bytes, _) =>
    (srcA x k h).bind fun (m, news) =>
    match s with
    | .slice base n c =>
      if m = 0 then some (s, h) else
      if k = 0 || (n + m) * bytes > 140737488355328 || n + m > 1152921504606846976 || !news.all one then none else
      if n + m ≤ c % G then
        match base with
        | some ⟨A, o, none⟩ => if c < G || c / G = k then (writeA A (o + n * k) news h).map fun h' => (.slice base (n + m) c, h') else none
        | _ => none
      else
        (cellsA s k h).bind fun old =>
        if c < G then some (.slice (some ⟨h.size, 0, none⟩) (n + m) (G * k + (n + m)), h.push (.row (old ++ news) e false))
        else match base with
          | some ⟨A, _, none⟩ => match h.get A with
            | some (.row _ e' false) =>
              if e' = e && c / G = k then some (.slice (some ⟨h.size, 0, none⟩) (n + m) (G * k + (n + m)), (h.set A .dead).push (.row (old ++ news) e false)) else none
            | _ => none
          | _ => none
    | _ => none
  | _ => none

def bound (x : Value) (hi : Nat) : Option Nat :=
  match x with
  | .int _ i => if 0 ≤ i ∧ i ≤ hi then some i.toNat else none
  | _ => none

def boundsA (len cap : Nat) (l h m : Option Value) : Option (Nat × Nat × Nat) :=
  (match m with | some v => bound v cap | none => some cap).bind fun m' =>
  (match h, m with | some v, _ => bound v m' | none, none => some len | none, some _ => none).bind fun h' =>
  (match l with | some v => bound v h' | none => some 0).bind fun l' => some (l', h', m')

def sliceA (t : TypeId) (x : Value) (l h m : Option Value) : Option Value :=
  match T.desc t, x with
  | some .string, .string s => if m.isSome then none else (boundsA s.size s.size l h none).map fun (l', h', _) => .string (s.extract l' h')
  | some (.array n e), .pointer (some ⟨A, o, none⟩) =>
    (if n < G then boundsA n n l h m else none).bind fun (l', h', m') => (sizeA T e).map fun k => .slice (some ⟨A, if m' = l' then o else o + l' * k, none⟩) (h' - l') (m' - l')
  | some (.slice e), .slice a n c =>
    (sizeA T e).bind fun k =>
    if c < G then
      (boundsA n c l h m).bind fun (l', h', m') => match a with
        | some ⟨A, o, none⟩ => some (.slice (some ⟨A, if m' = l' then o else o + l' * k, none⟩) (h' - l') (m' - l'))
        | none => some (.slice none (h' - l') (m' - l'))
        | _ => none
    else match a with
      | some ⟨A, o, none⟩ =>
        if c / G = k then
          (boundsA n (c % G) l h m).map fun (l', h', m') => match m with
            | some _ => .slice (some ⟨A, if m' = l' then o else o + l' * k, none⟩) (h' - l') (m' - l')
            | none => .slice (some ⟨A, o + l' * k, none⟩) (h' - l') (G * k + (m' - l'))
        else none
      | _ => none
  | _, _ => none

def indexAddrA (t : TypeId) (x i : Value) : Option Value :=
  match i with
  | .int _ i => match T.desc t, x with
    | some (.array n e), .pointer (some ⟨A, o, none⟩) => if 0 ≤ i ∧ i < n then (sizeA T e).map fun k => .pointer (some ⟨A, o + i.toNat * k, none⟩) else none
    | some (.slice e), .slice (some ⟨A, o, none⟩) n _ => if 0 ≤ i ∧ i < n then (sizeA T e).map fun k => .pointer (some ⟨A, o + i.toNat * k, none⟩) else none
    | _, _ => none
  | _ => none

def fieldAddrA (s : TypeId) (x : Value) (f : Nat) : Option Value :=
  match T.desc s, x with
  | some (.struct fs), .pointer (some ⟨A, o, none⟩) =>
    (fs[f]?).bind fun f => (sizeA T f.type).bind fun n => if n = 0 then none else some (.pointer (some ⟨A, o + f.offset, none⟩))
  | _, _ => none

def partA (t : TypeId) (cs : List Value) (o : Nat) : Option Value :=
  (aggA T t).bind fun g => if g then (sizeA T t).bind fun n => (cut cs o n).map fun l => .agg l.toArray else cs[o]?

def fieldA (t : TypeId) (x : Value) (f : Nat) : Option Value :=
  match T.desc t, x with
  | some (.struct fs), .agg cs => (fs[f]?).bind fun f => partA T f.type cs.toList f.offset
  | _, _ => none

/-- A comparison, part by part. -/
def eqParts (E : TypeId → Value → Value → Option Bool) (xs ys : List Value) : List (TypeId × Nat) → Option Bool
  | [] => some true
  | (t, o) :: r => (partA T t xs o).bind fun a => (partA T t ys o).bind fun b => (E t a b).bind fun c => if c then eqParts E xs ys r else some false
def fieldParts : List Field → Option (List (TypeId × Nat))
  | [] => some []
  | f :: fs => if f.name = "_" then none else (fieldParts fs).map fun r => (f.type, f.offset) :: r
def itemParts (e : TypeId) (k : Nat) : Nat → Nat → List (TypeId × Nat)
  | 0, _ => []
  | n + 1, i => (e, i * k) :: itemParts e k n (i + 1)
def eqIn : Nat → TypeId → Value → Value → Option Bool
  | 0, _, _, _ => none
  | d + 1, t, x, y => match T.desc t, x, y with
    | some .bool, .bool a, .bool b => some (a == b)
    | some (.int _), .int k a, .int k' b => if k = k' then some (a == b) else none
    | some .string, .string a, .string b => some (a.data.toList == b.data.toList)
    | some (.struct fs), .agg xs, .agg ys => if T.cmp t then (fieldParts fs.toList).bind fun ps => eqParts T (eqIn d) xs.toList ys.toList ps else none
    | some (.array n e), .agg xs, .agg ys => (sizeA T e).bind fun k => eqParts T (eqIn d) xs.toList ys.toList (itemParts e k n 0)
    | _, _, _ => none

def fillA (place : Nat → Option (Nat × Nat)) (cells : List Value) : List (Nat × Value) → Option (List Value)
  | [] => some cells
  | (i, v) :: rest => (place i).bind fun (o, n) =>
    if v.cells.size = n ∧ o + n ≤ cells.length then fillA place (splice cells o v.cells.toList) rest else none

def placesA : List Field → Option (List (Nat × Nat))
  | [] => some []
  | f :: fs => (sizeA T f.type).bind fun n => (placesA fs).map fun r => (f.offset, n) :: r

def buildA (t : TypeId) (parts : List (Nat × Value)) : Option Value :=
  (T.info t).bind fun (_, _, z) =>
  match T.desc t with
  | some (.struct fs) => (placesA T fs.toList).bind fun places => (fillA (fun k => places[k]?) z parts).map fun cs => .agg cs.toArray
  | some (.array _ e) => (sizeA T e).bind fun k => (fillA (fun i => some (i * k, k)) z parts).map fun cs => .agg cs.toArray
  | _ => none

/-- 'n' zero values. -/
def zerosA (z : List Value) (n : Nat) : List Value := (List.replicate n z).flatten

def buildSliceA (t : TypeId) (len : Nat) (parts : List (Nat × Value)) (h : Heap) : Option (Value × Heap) :=
  match T.desc t with
  | some (.slice e) => (T.info e).bind fun (k, _, z) =>
    if len * k > 16777216 || len > 16777216 then none else
    (fillA (fun i => some (i * k, k)) (zerosA z len) parts).map fun cs => (.slice (some ⟨h.size, 0, none⟩) len len, h.push (.row cs e false))
  | _ => none

def makeSliceA (t : TypeId) (l c : Value) (h : Heap) : Option (Value × Heap) :=
  match T.desc t, l, c with
  | some (.slice e), .int _ l, .int _ c => (T.info e).bind fun (_, bytes, z) =>
    if 0 ≤ l ∧ l ≤ c ∧ c ≤ 1152921504606846976 ∧ c * bytes ≤ 140737488355328 then
      some (.slice (some ⟨h.size, 0, none⟩) l.toNat c.toNat, h.push (.row (zerosA z c.toNat) e false))
    else none
  | _, _, _ => none

def copyA (t : TypeId) (d s : Value) (h : Heap) : Option (Value × Heap) :=
  match T.desc t, d with
  | some (.slice e), .slice a n _ => (sizeA T e).bind fun k =>
    (srcA s k h).bind fun (m, src) =>
    if min m n = 0 then some (.int .i64 0, h) else
    match a with
    | some ⟨A, o, none⟩ => (writeA A o (src.take (min m n * k)) h).map fun h' => (.int .i64 (min m n : Nat), h')
    | _ => none
  | _, _ => none

def clearA (t : TypeId) (x : Value) (h : Heap) : Option Heap :=
  match T.desc t, x with
  | some (.slice e), .slice a n _ =>
    if n = 0 then some h else
    (T.info e).bind fun (_, _, z) =>
    match a with
    | some ⟨A, o, none⟩ => writeA A o (zerosA z n) h
    | _ => none
  | _, _ => none

/-- A comparison with nil. -/
def eqNil (d : TypeDesc) (x y : Value) : Option Bool :=
  match d, x, y with
  | .pointer _, .pointer none, .pointer b => some b.isNone
  | .pointer _, .pointer (some _), .pointer none => some false
  | .slice _, .slice none _ _, .slice b _ _ => some b.isNone
  | .slice _, .slice (some _) _ _, .slice none _ _ => some false
  | .map _ _, .map none, .map b => some b.isNone
  | .map _ _, .map (some _), .map none => some false
  | .func _ _ _, .nilFunc, .nilFunc => some true
  | .func _ _ _, .nilFunc, .func _ _ _ => some false
  | .func _ _ _, .func _ _ _, .nilFunc => some false
  | _, _, _ => none

def binFast (op : BinOp) (x y : Value) : Option Value :=
  match op, x, y with
  | .add, .int k a, .int k' b => if k = k' then some (.int k (k.wrap (a + b))) else none
  | .sub, .int k a, .int k' b => if k = k' then some (.int k (k.wrap (a - b))) else none
  | .eql, .int k a, .int k' b => if k = k' then some (.bool (a == b)) else none
  | .neq, .int k a, .int k' b => if k = k' then some (.bool (a != b)) else none
  | .lss, .int k a, .int k' b => if k = k' then some (.bool (a < b)) else none
  | .leq, .int k a, .int k' b => if k = k' then some (.bool (a ≤ b)) else none
  | .gtr, .int k a, .int k' b => if k = k' then some (.bool (a > b)) else none
  | .geq, .int k a, .int k' b => if k = k' then some (.bool (a ≥ b)) else none
  | _, _, _ => none

def binA (op : BinOp) (t : TypeId) (x y : Value) : Option Value :=
  match binFast op x y with
  | some v => some v
  | none =>
    match (T.desc t).bind fun d => eqNil d x y with
    | some b => (match op with | .eql => some (.bool b) | .neq => some (.bool !b) | _ => none)
    | none =>
      if plain x && plain y then
        match x, y with
        | .nilIface, _ => none
        | .agg _, .agg _ => if T.cmp t then (match op with
          | .eql => (eqIn T 20 t x y).map fun b => .bool b
          | .neq => (eqIn T 20 t x y).map fun b => .bool !b
          | _ => none) else none
        | _, _ => (pureRun P (binOp op t x y)).bind fun v => if plain v then some v else none
      else none

def lenA (t : TypeId) (x : Value) (h : Heap) : Option Value :=
  match T.desc t, x with
  | some .string, .string s => some (.int .i64 s.size)
  | some (.slice _), .slice _ n _ => some (.int .i64 n)
  | some (.map _ _), .map none => some (.int .i64 0)
  | some (.map _ _), .map (some A) => (match h.get A with
    | some (.map es _) => some (.int .i64 es.length)
    | _ => none)
  | _, _ => none

/-! ### Maps: keys without an address, held against each other part by part -/
/-- Cells that are told by their signs alone. -/
def same1 : Value → Value → Bool
  | .bool a, .bool b => a == b
  | .int j a, .int k b => decide (j = k) && a == b
  | .string a, .string b => a.data.toList == b.data.toList
  | _, _ => false
def sameAll : List Value → List Value → Bool
  | [], [] => true
  | x :: xs, y :: ys => same1 x y && sameAll xs ys
  | _, _ => false
def sameKey : Value → Value → Bool
  | .agg a, .agg b => sameAll a.toList b.toList
  | x, y => same1 x y
/-- A key: no address in it, and it is held against itself part by part. -/
def isKey (kt : TypeId) (k : Value) : Bool := if plain k then (match eqIn T 20 kt k k with | some b => b | none => false) else false
def findA (kt : TypeId) (k : Value) : List MapEntry → Nat → Option (Option (Nat × Value))
  | [], _ => some none
  | e :: es, i => (eqIn T 20 kt k e.key).bind fun b => if b then some (some (i, e.val)) else findA kt k es (i + 1)
def mapOf (x : Value) (h : Heap) : Option (List MapEntry) :=
  match x with
  | .map none => some []
  | .map (some A) => (match h.get A with | some (.map es _) => some es | _ => none)
  | _ => none
def lookupA (t : TypeId) (x k : Value) (ok : Bool) (h : Heap) : Option Value :=
  match T.desc t with
  | some (.map kt et) =>
    if isKey T kt k then
      (mapOf x h).bind fun es => (findA T kt k es 0).bind fun r => (match r with
        | some (_, v) => some (v, true)
        | none => (T.zero et).map fun z => (z, false)).map fun (v, b) => if ok then .tuple #[v, .bool b] else v
    else none
  | _ => none
def updateA (t : TypeId) (x k v : Value) (h : Heap) : Option Heap :=
  match T.desc t, x with
  | some (.map kt _), .map (some A) => (match h.get A with
    | some (.map es clock) =>
      if isKey T kt k then
        (findA T kt k es 0).bind fun r => match r with
          | some (i, _) => (es[i]?).bind fun e => if sameKey e.key k then some (h.set A (.map (es.modify i fun e => { e with key := k, val := v }) clock)) else none
          | none => some (h.set A (.map (es ++ [{ key := k, val := v, born := clock }]) (clock + 1)))
      else none
    | _ => none)
  | _, _ => none

def evalOperand (e : Env) : Operand → Value
  | .tmp t => e.get t
  | .const v => v
  | .global g => .pointer (some ⟨g, 0, none⟩)
  | .func f => .func (.func f) #[] #[]

def deleteA (t : TypeId) (x k : Value) (h : Heap) : Option Heap :=
  match T.desc t, x with
  | some (.map kt _), .map none => if isKey T kt k then some h else none
  | some (.map kt _), .map (some A) => (match h.get A with
    | some (.map es clock) =>
      if isKey T kt k then
        (findA T kt k es 0).bind fun r => match r with
          | some (i, _) => some (h.set A (.map (es.eraseIdx i) clock))
          | none => some (h.set A (.map es clock))
      else none
    | _ => none)
  | _, _ => none

/-- An entry that is assigned to: what it holds, its stamp. -/
def entryA (t : TypeId) (x k : Value) (h : Heap) : Option (Value × Heap) :=
  match T.desc t, x with
  | some (.map kt et), .map (some A) => (match h.get A with
    | some (.map es clock) =>
      if isKey T kt k then
        (findA T kt k es 0).bind fun r => match r with
          | some (i, v) => (es[i]?).bind fun e => if sameKey e.key k then some (.tuple #[v, .int .i64 e.born], h.set A (.map (es.modify i fun e => { e with key := k }) clock)) else none
          | none => (T.zero et).map fun z => (.tuple #[z, .int .i64 clock], h.set A (.map (es ++ [{ key := k, val := z, born := clock }]) (clock + 1)))
      else none
    | _ => none)
  | _, _ => none
def bornAt (s : Int) : List MapEntry → Nat → Option Nat
  | [], _ => none
  | e :: es, i => if (e.born : Int) = s then some i else bornAt s es (i + 1)
def entryStoreA (x s v : Value) (h : Heap) : Option Heap :=
  match x, s with
  | .map (some A), .int _ b => (match h.get A with
    | some (.map es clock) => (bornAt b es 0).map fun i => h.set A (.map (es.modify i fun e => { e with val := v }) clock)
    | _ => none)
  | _, _ => none

/-! ### Interfaces -/
def ifaceA (t : TypeId) (x : Value) : Option Value := match T.desc t with
  | some (.interface _) => none
  | some _ => some (.iface t x)
  | none => none
def assertA (x : Value) (asserted : TypeId) (ok : Bool) : Option Value := match T.desc asserted with
  | some (.interface _) => none
  | some _ => (match x with
    | .iface t v => if t = asserted then some (if ok then .tuple #[v, .bool true] else v) else if ok then (T.zero asserted).map fun z => .tuple #[z, .bool false] else none
    | .nilIface => if ok then (T.zero asserted).map fun z => .tuple #[z, .bool false] else none
    | _ => none)
  | none => none
inductive PlaceA where
  | val (v : Value)
  | var (p : Value)
def PlaceA.get (t : TypeId) (h : Heap) : PlaceA → Option Value
  | .val v => some v
  | .var p => loadA T t p h
def followA (h : Heap) : List FieldStep → TypeId → PlaceA → Option (TypeId × PlaceA)
  | [], t, x => some (t, x)
  | s :: rest, t, x => match T.desc s.struct with
    | some (.struct fs) => (fs[s.index]?).bind fun f =>
      if s.deref then (x.get T t h).bind fun p => (fieldAddrA T s.struct p s.index).bind fun q => followA h rest f.type (.var q)
      else match x with
        | .var p => (fieldAddrA T s.struct p s.index).bind fun q => followA h rest f.type (.var q)
        | .val (.agg cs) => (partA T f.type cs.toList f.offset).bind fun v => followA h rest f.type (.val v)
        | _ => none
    | _ => none
def receiverA (xt : TypeId) (x : PlaceA) (ptr : Bool) (h : Heap) : Option Value :=
  match T.desc xt, ptr, x with
  | some (.pointer _), true, x => x.get T xt h
  | some (.pointer elem), false, x => (x.get T xt h).bind fun p => loadA T elem p h
  | some _, true, .var p => (match p with | .pointer (some a) => some (.pointer (some a)) | _ => none)
  | some _, false, x => x.get T xt h
  | _, _, _ => none
def methodA (t : TypeId) (v : Value) (name : String) (h : Heap) : Option (FuncId × Value) :=
  (T.meth t name).bind fun m => (followA T h m.path.toList t (.val v)).bind fun (xt, x) => match m.func with
    | some (f, ptr) => (receiverA T xt x ptr h).map fun r => (f, r)
    | none => none

/-! ### Bytes -/
def bytesA : List Value → Option (List UInt8)
  | [] => some []
  | .int .u8 n :: l => (bytesA l).map (UInt8.ofNat n.toNat :: ·)
  | _ => none
def bytesToA (s d : TypeId) (x : Value) (h : Heap) : Option Value :=
  match T.desc s, T.desc d, x with
  | some (.slice e), some .string, .slice _ _ _ => (match T.desc e with
    | some (.int .u8) => (cellsA x 1 h).bind fun l => (bytesA l).map fun bs => .string ⟨bs.toArray⟩
    | _ => none)
  | _, _, _ => none
/-- A string's bytes in a new row of open capacity. -/
def toBytesA (d : TypeId) (x : Value) (h : Heap) : Option (Value × Heap) :=
  match T.desc d, x with
  | some (.slice e), .string b => (match T.desc e, T.info e with
    | some (.int .u8), some (1, _, _) => if b.size > 1152921504606846976 then none else some (.slice (some ⟨h.size, 0, none⟩) b.size (G * 1 + b.size), h.push (.row (b.data.toList.map fun u => Value.int .u8 u.toNat) e false))
    | _, _ => none)
  | _, _ => none
def isString (t : TypeId) : Bool := match T.desc t with
  | some .string => true
  | _ => false
def isSlice (t : TypeId) : Bool := match T.desc t with
  | some (.slice _) => true
  | _ => false
def capA (t : TypeId) (x : Value) : Option Value :=
  match T.desc t, x with
  | some (.slice _), .slice _ _ c => if c < G then some (.int .i64 c) else none
  | _, _ => none

/-- An operation on values without addresses that looks at no memory. -/
def pureOp (e : Env) (o : Oper) (h : Heap) : Option (Value × Heap) :=
  if o.op.operands.toList.all fun x => plain (evalOperand e x) then
    match pureRun P (execOp (evalOperand e) o) with
    | some (.value v) => if plain v then some (v, h) else none
    | _ => none
  else none

/-- What may be appended to a slice: a slice, a string. -/
def srcTyA (t u : TypeId) : Bool := u == t || (match T.desc u with | some .string | some (.slice _) => true | _ => false)

variable (C : Fn → List Value → Heap → Option (Value × Heap))

def evalOp (e : Env) (o : Oper) (h : Heap) : Option (Value × Heap) :=
  let v := evalOperand e
  match o.op with
  | .move x => some (v x, h)
  | .assign x => some (v x, h)
  | .pick c a b => match v c with | .bool t => some (if t then v a else v b, h) | _ => none
  | .alloc t => (T.info t).map fun (_, _, z) => newRow t z h
  | .box t x => some (newRow t (v x).cells.toList h)
  | .build t ps => (buildA T t (ps.toList.map fun (i, x) => (i, v x))).map fun r => (r, h)
  | .buildSlice t n ps => buildSliceA T t n (ps.toList.map fun (i, x) => (i, v x)) h
  | .load t a => (loadA T t (v a) h).map fun r => (r, h)
  | .store t a x => (storeA T t (v a) (v x) h).map fun h' => (undef, h')
  | .nilCheck x => match v x with
    | .pointer (some a) => some (.pointer (some a), h)
    | .func (.func f) a b => some (.func (.func f) a b, h)
    | .iface t a => some (.iface t a, h)
    | _ => none
  | .binOp op t x y _ => (binA P T op t (v x) (v y)).map fun r => (r, h)
  | .makeFunc fn first captured => match fn with | .func f => some (.func (.func f) (first.map v) (captured.map v), h) | _ => none
  | .makeSlice t l c => makeSliceA T t (v l) (v c) h
  | .slice t x l hi m => (sliceA T t (v x) (l.map v) (hi.map v) (m.map v)).map fun r => (r, h)
  | .fieldAddr s x f => (fieldAddrA T s (v x) f).map fun r => (r, h)
  | .field t x f => (fieldA T t (v x) f).map fun r => (r, h)
  | .indexAddr t x i => (indexAddrA T t (v x) (v i)).map fun r => (r, h)
  | .extract t i => match v t with | .tuple vs => (vs[i]?).map fun r => (r, h) | _ => none
  | .unOp _ _ _ => pureOp P e o h
  | .convert s d x => if isSlice T s then (bytesToA T s d (v x) h).map fun r => (r, h) else if isSlice T d then (if isString T s then toBytesA T d (v x) h else none) else pureOp P e o h
  | .index _ _ _ => pureOp P e o h
  | .call c => match c.callee with
    | .builtin .append => match c.argTypes.toList, c.args.toList with
      | [t, u], [s, x] => if srcTyA T t u then appendA T t (v s) (v x) h else none
      | _, _ => none
    | .builtin .copy => match c.argTypes.toList, c.args.toList with
      | [t, _], [d, s] => copyA T t (v d) (v s) h
      | _, _ => none
    | .builtin .clear => match c.argTypes.toList, c.args.toList with
      | [t], [x] => (clearA T t (v x) h).map fun h' => (undef, h')
      | _, _ => none
    | .builtin .len => match c.argTypes.toList, c.args.toList with
      | t :: _, [x] => (lenA T t (v x) h).map fun r => (r, h)
      | _, _ => none
    | .builtin .min => pureOp P e o h
    | .builtin .max => pureOp P e o h
    | .builtin .delete => match c.argTypes.toList, c.args.toList with
      | t :: _, [m, k] => (deleteA T t (v m) (v k) h).map fun h' => (undef, h')
      | _, _ => none
    | .builtin .cap => match c.argTypes.toList, c.args.toList with
      | t :: _, [x] => (capA T t (v x)).map fun r => (r, h)
      | _, _ => none
    | .invoke r name => match v r with
      | .iface t x => (methodA T t x name h).bind fun (f, y) => C (.func f) (y :: c.args.toList.map v) h
      | _ => none
    | .value f => match v f with
      | .func (.func f) first captured => C (.func f) (first.toList ++ c.args.toList.map v ++ captured.toList) h
      | .func (.yield A) first captured => if first.isEmpty && captured.isEmpty then C (.yield A) (c.args.toList.map v) h else none
      | _ => none
    | _ => none
  | .makeMap t r => match r with
    | none => some (.map (some h.size), h.push (.map [] 0))
    | some x => (match T.desc t, v x with
      | some (.map _ _), .int _ _ => some (.map (some h.size), h.push (.map [] 0))
      | _, _ => none)
  | .lookup t x k ok => (lookupA T t (v x) (v k) ok h).map fun r => (r, h)
  | .mapUpdate t m k x => (updateA T t (v m) (v k) (v x) h).map fun h' => (undef, h')
  | .insert t m k x => (updateA T t (v m) (v k) (v x) h).map fun h' => (undef, h')
  | .mapEntry t m k => entryA T t (v m) (v k) h
  | .entryStore _ m s x => (entryStoreA (v m) (v s) (v x) h).map fun h' => (undef, h')
  | .makeInterface t x => (ifaceA T t (v x)).map fun r => (r, h)
  | .typeAssert x _ t ok => (assertA T (v x) t ok).map fun r => (r, h)
  | _ => none

def wantedA (ops : Array Oper) (o : Oper) (e : Env) : Bool :=
  match o.guard with
  | none => true
  | some (j, b) => match (ops[j]?).bind (·.dst) with
    | some t => (match e.get t with | .bool c => c == b | _ => false)
    | none => false

def put (e : Env) (d : Option Tmp) (v : Value) : Env := match d with
  | some d => e.set d v
  | none => e

def evalOps (ops : Array Oper) : List Oper → Env → Heap → Option (Env × Heap)
  | [], e, h => some (e, h)
  | o :: rest, e, h =>
    if wantedA ops o e then
      match evalOp P T C e o h with
      | some (v, h') => evalOps ops rest (put e o.dst v) h'
      | none => none
    else evalOps ops rest (put e o.dst undef) h

inductive Ex where
  | normal
  | exit (id : Nat)
  | ret

def iter (f : Env → Heap → Option (Ex × Env × Heap)) : Nat → Env → Heap → Option (Ex × Env × Heap)
  | 0, _, _ => none
  | n + 1, e, h => match f e h with
    | some (.normal, e', h') => iter f n e' h'
    | r => r

variable (D : Array Oper → Env → Heap → Option (Env × Heap))

/-- Within a round: its record is there. -/
def aroundOk (rd : Option Nat) (h : Heap) : Bool := match rd with
  | none => true
  | some A => (match h.get A with | some (.loop ..) => true | _ => false)
/-- Behind a range over a function: the jump that is pending. -/
def afterLoop (l : Nat) (e : Env) (h : Heap) : Option (Ex × Env × Heap) :=
  match h.get l with
  | some (.loop env ps assign body st pend) => (match st with
    | .busy => none
    | _ => (match pend with
      | none => some (.normal, e, h.set l (.loop env ps assign body .exhausted pend))
      | some (.exit id) => some (.exit id, e, h.set l (.loop env ps assign body .exhausted pend))
      | some .ret => some (.ret, e, h.set l (.loop env ps assign body .exhausted pend))
      | _ => none))
  | _ => none
def hasBody (f : FuncId) : Bool := match T.fn f with
  | some fn => (match fn.body with | some _ => true | none => false)
  | none => false
def rangeA (rd : Option Nat) (g : Value) (ps : List Tmp) (assign body : Code) (e : Env) (h : Heap) : Option (Ex × Env × Heap) :=
  match g with
  | .func (.func f) first captured =>
    if aroundOk rd h && hasBody T f then
      match C (.func f) (first.toList ++ [.func (.yield h.size) #[] #[]] ++ captured.toList) (h.push (.loop e ps assign body .ready none)) with
      | some (_, h2) => afterLoop h.size e h2
      | none => none
    else none
  | _ => none

def evalCode (rd : Option Nat) (fuel : Nat) : Code → Env → Heap → Option (Ex × Env × Heap)
  | .skip, e, h => some (.normal, e, h)
  | .region _ ops d, e, h => (if d then D ops e h else evalOps P T C ops ops.toList e h).map fun (e', h') => (.normal, e', h')
  | .seq a b, e, h => match evalCode rd fuel a e h with
    | some (.normal, e', h') => evalCode rd fuel b e' h'
    | r => r
  | .cond c a b, e, h => match evalOperand e c with
    | .bool true => evalCode rd fuel a e h
    | .bool false => evalCode rd fuel b e h
    | _ => none
  | .block id c, e, h => match evalCode rd fuel c e h with
    | some (.exit i, e', h') => if i = id then some (.normal, e', h') else some (.exit i, e', h')
    | r => r
  | .loop c, e, h => iter (evalCode rd fuel c) fuel e h
  | .scope c, e, h => evalCode rd fuel c e h
  | .rangeFunc g ps assign body, e, h => rangeA T C rd (evalOperand e g) ps.toList assign body e h
  | .exit id, e, h => some (.exit id, e, h)
  | .ret, e, h => some (.ret, e, h)
  | .label _, e, h => some (.normal, e, h)
  | _, _, _ => none

def resultA (e : Env) (h : Heap) : ResultVar → Option Value
  | .tmp t => some (e.get t)
  | .cell a t => loadA T t (e.get a) h

def resultsA (fn : Func) (e : Env) (h : Heap) : Option Value :=
  match fn.results.toList with
  | [r] => resultA T e h r
  | rs => (rs.mapM (resultA T e h)).map fun vs => .tuple vs.toArray
end

/-! ### What the text of a function must be -/
def okOperand (gs : List Nat) : Operand → Bool
  | .const v => plain v
  | .global g => gs.contains g
  | _ => true
def opOk (gs : List Nat) (o : Oper) : Bool := o.op.operands.toList.all (okOperand gs)
def codeOk (gs : List Nat) : Code → Bool
  | .region _ ops _ => ops.toList.all (opOk gs)
  | .seq a b => codeOk gs a && codeOk gs b
  | .cond c a b => okOperand gs c && codeOk gs a && codeOk gs b
  | .block _ c => codeOk gs c
  | .loop c => codeOk gs c
  | .scope c => codeOk gs c
  | .rangeFunc g _ a b => okOperand gs g && codeOk gs a && codeOk gs b
  | _ => true
end Go.Am
