/- The plain machine, told so that the kernel runs it fast: every step hands what it has on, and says yes or no. Definitions alone; no condition. -/
import Derived.Test.YtemapihoobmonaaDoorG2
namespace Go.Am

/-! ### The places of a frame -/
inductive Pth where
  | here
  | l (p : Pth)
  | r (p : Pth)
def pathF : Nat → Nat → Pth
  | 0, _ => .here
  | n + 1, i => match i with
    | 0 => .here
    | i + 1 => match i % 2 with
      | 0 => .l (pathF n (i / 2))
      | _ + 1 => .r (pathF n (i / 2))
def pathOf (i : Nat) : Pth := pathF (i + 1) i
inductive ET where
  | leaf
  | node (v : Value) (l r : ET)
noncomputable def ET.get (p : Pth) : ET → Value :=
  Pth.rec (motive := fun _ => ET → Value) (fun t => ET.casesOn t undef fun v _ _ => v) (fun _ ih t => ET.casesOn t undef fun _ l _ => ih l) (fun _ ih t => ET.casesOn t undef fun _ _ r => ih r) p
noncomputable def ET.set (p : Pth) (v : Value) : ET → ET :=
  Pth.rec (motive := fun _ => ET → ET) (fun t => ET.casesOn t (.node v .leaf .leaf) fun _ l r => .node v l r) (fun _ ih t => ET.casesOn t (.node undef (ih .leaf) .leaf) fun x l r => .node x (ih l) r)
    (fun _ ih t => ET.casesOn t (.node undef .leaf (ih .leaf)) fun x l r => .node x l (ih r)) p
noncomputable def ET.setK (p : Pth) (v : Value) : ET → (ET → Bool) → Bool :=
  Pth.rec (motive := fun _ => ET → (ET → Bool) → Bool) (fun t k => ET.casesOn t (k (.node v .leaf .leaf)) fun _ l r => k (.node v l r)) (fun _ ih t k => ET.casesOn t (ih .leaf fun l => k (.node undef l .leaf)) fun x l r => ih l fun l => k (.node x l r))
    (fun _ ih t k => ET.casesOn t (ih .leaf fun r => k (.node undef .leaf r)) fun x l r => ih r fun r => k (.node x l r)) p

structure FE where
  n : Nat
  t : ET

abbrev FK := Value → Heap → Bool
abbrev Arm := FE → Heap → FK → Bool

noncomputable def fval (o : Operand) : FE → Value :=
  Operand.rec (motive := fun _ => FE → Value) (fun t e => ET.get (pathOf t) e.t) (fun v _ => v) (fun g _ => .pointer (some ⟨g, 0, none⟩)) (fun f _ => .func (.func f) #[] #[]) o
noncomputable def fPut (d : Option Tmp) (v : Value) (e : FE) (k : FE → Bool) : Bool := match d with
  | none => k e
  | some i => match Nat.blt i e.n with
    | true => ET.setK (pathOf i) v e.t fun t => k ⟨e.n, t⟩
    | false => k e

/-! ### The operations -/
def fSome (r : Option Value) (h : Heap) (k : FK) : Bool := match r with
  | some v => k v h
  | none => false
def fMem (r : Option Heap) (k : FK) : Bool := match r with
  | some h => k undef h
  | none => false
def fBoth (r : Option (Value × Heap)) (k : FK) : Bool := match r with
  | some (v, h) => k v h
  | none => false
def fBool (v : Value) (a b : Bool) : Bool := match v with
  | .bool t => (match t with | true => a | false => b)
  | _ => false

noncomputable def f_move (x : Operand) : Arm := fun e h k => k (fval x e) h
noncomputable def f_pick (c a b : Operand) : Arm := fun e h k => fBool (fval c e) (k (fval a e) h) (k (fval b e) h)
noncomputable def f_box (t : TypeId) (x : Operand) : Arm := fun e h k => k (.pointer (some ⟨h.size, 0, none⟩)) (h.push (.row (fval x e).cells.toList t false))
def f_no0 : Arm := fun _ _ _ => false
def f_no1 {α : Type} : α → Arm := fun _ _ _ _ => false
def f_no2 {α β : Type} : α → β → Arm := fun _ _ _ _ _ => false
def f_no3 {α β γ : Type} : α → β → γ → Arm := fun _ _ _ _ _ _ => false
noncomputable def fparts (l : List (Nat × Operand)) (e : FE) : List (Nat × Value) := List.rec (motive := fun _ => List (Nat × Value)) [] (fun p _ ih => (p.1, fval p.2 e) :: ih) l
noncomputable def fargs (l : List Operand) (e : FE) : List Value := List.rec (motive := fun _ => List Value) [] (fun x _ ih => fval x e :: ih) l
noncomputable def foptv (o : Option Operand) (e : FE) : Option Value := match o with
  | some x => some (fval x e)
  | none => none
noncomputable def f_nilCheck (x : Operand) : Arm := fun e h k => match fval x e with
  | .pointer (some a) => k (.pointer (some a)) h
  | .func (.func f) a b => k (.func (.func f) a b) h
  | .iface t a => k (.iface t a) h
  | _ => false
noncomputable def f_makeFunc (fn : Fn) (first captured : Array Operand) : Arm := fun e h k => match fn with
  | .func f => k (.func (.func f) ⟨fargs first.toList e⟩ ⟨fargs captured.toList e⟩) h
  | _ => false
noncomputable def f_extract (t : Operand) (i : Nat) : Arm := fun e h k => match fval t e with
  | .tuple vs => fSome (vs.toList[i]?) h k
  | _ => false

section
variable (P : Program) (T : Tab)
noncomputable def f_alloc (t : TypeId) : Arm := fun _ h k => match T.info t with
  | some (_, _, z) => k (.pointer (some ⟨h.size, 0, none⟩)) (h.push (.row z t false))
  | none => false
noncomputable def f_build (t : TypeId) (ps : Array (Nat × Operand)) : Arm := fun e h k => fSome (buildA T t (fparts ps.toList e)) h k
noncomputable def f_buildSlice (t : TypeId) (n : Nat) (ps : Array (Nat × Operand)) : Arm := fun e h k => fBoth (buildSliceA T t n (fparts ps.toList e) h) k
noncomputable def f_load (t : TypeId) (a : Operand) : Arm := fun e h k => fSome (loadA T t (fval a e) h) h k
noncomputable def f_store (t : TypeId) (a x : Operand) : Arm := fun e h k => fMem (storeA T t (fval a e) (fval x e) h) k
noncomputable def f_binOp (op : BinOp) (t : TypeId) (x y : Operand) (_ : TypeId) : Arm := fun e h k => fSome (binA P T op t (fval x e) (fval y e)) h k
noncomputable def f_makeSlice (t : TypeId) (l c : Operand) : Arm := fun e h k => fBoth (makeSliceA T t (fval l e) (fval c e) h) k
noncomputable def f_slice (t : TypeId) (x : Operand) (l hi m : Option Operand) : Arm := fun e h k => fSome (sliceA T t (fval x e) (foptv l e) (foptv hi e) (foptv m e)) h k
noncomputable def f_fieldAddr (s : TypeId) (x : Operand) (f : Nat) : Arm := fun e h k => fSome (fieldAddrA T s (fval x e) f) h k
noncomputable def f_field (s : TypeId) (x : Operand) (f : Nat) : Arm := fun e h k => fSome (fieldA T s (fval x e) f) h k
noncomputable def f_indexAddr (t : TypeId) (x i : Operand) : Arm := fun e h k => fSome (indexAddrA T t (fval x e) (fval i e)) h k

noncomputable def f_pure (o : Oper) : Arm := fun e h k =>
  match (fargs o.op.operands.toList e).all plain with
  | true => match pureRun P (execOp (fun x => fval x e) o) with
    | some (.value v) => (match plain v with | true => k v h | false => false)
    | _ => false
  | false => false

variable (C : Fn → List Value → Heap → FK → Bool)
noncomputable def f_append (ts : List TypeId) (xs : List Operand) : Arm := fun e h k => match ts, xs with
  | [t, u], [s, x] => (match srcTyA T t u with | true => fBoth (appendA T t (fval s e) (fval x e) h) k | false => false)
  | _, _ => false
noncomputable def f_copy (ts : List TypeId) (xs : List Operand) : Arm := fun e h k => match ts, xs with
  | [t, _], [d, s] => fBoth (copyA T t (fval d e) (fval s e) h) k
  | _, _ => false
noncomputable def f_clear (ts : List TypeId) (xs : List Operand) : Arm := fun e h k => match ts, xs with
  | [t], [x] => fMem (clearA T t (fval x e) h) k
  | _, _ => false
noncomputable def f_len (ts : List TypeId) (xs : List Operand) : Arm := fun e h k => match ts, xs with
  | t :: _, [x] => fSome (lenA T t (fval x e) h) h k
  | _, _ => false
noncomputable def f_delete (ts : List TypeId) (xs : List Operand) : Arm := fun e h k => match ts, xs with
  | t :: _, [m, i] => fMem (deleteA T t (fval m e) (fval i e) h) k
  | _, _ => false
noncomputable def f_cap (ts : List TypeId) (xs : List Operand) : Arm := fun e h k => match ts, xs with
  | t :: _, [x] => fSome (capA T t (fval x e)) h k
  | _, _ => false
noncomputable def f_convert (o : Oper) (s d : TypeId) (x : Operand) : Arm := fun e h k => match isSlice T s with
  | true => fSome (bytesToA T s d (fval x e) h) h k
  | false => match isSlice T d with
    | true => (match isString T s with | true => fBoth (toBytesA T d (fval x e) h) k | false => false)
    | false => f_pure P o e h k
noncomputable def f_iface (t : TypeId) (x : Operand) : Arm := fun e h k => fSome (ifaceA T t (fval x e)) h k
noncomputable def f_assert (x : Operand) (_ t : TypeId) (ok : Bool) : Arm := fun e h k => fSome (assertA T (fval x e) t ok) h k
noncomputable def f_invoke (r : Operand) (name : String) (xs : List Operand) : Arm := fun e h k => match fval r e with
  | .iface t x => (match methodA T t x name h with
    | some (f, y) => C (.func f) (y :: fargs xs e) h k
    | none => false)
  | _ => false
noncomputable def f_builtin (b : Builtin) (o : Oper) (ts : List TypeId) (xs : List Operand) : Arm :=
  match b with
  | .append => f_append T ts xs
  | .copy => f_copy T ts xs
  | .clear => f_clear T ts xs
  | .len => f_len T ts xs
  | .min => f_pure P o
  | .max => f_pure P o
  | .delete => f_delete T ts xs
  | .cap => f_cap T ts xs
  | _ => f_no0
def catL (l : List Value) : List Value → List Value
  | [] => l
  | x :: m => l ++ (x :: m)
noncomputable def f_value (f : Operand) (xs : List Operand) : Arm := fun e h k => match fval f e with
  | .func (.func g) first captured => C (.func g) (first.toList ++ catL (fargs xs e) captured.toList) h k
  | .func (.yield A) first captured => (match first.isEmpty && captured.isEmpty with | true => C (.yield A) (fargs xs e) h k | false => false)
  | _ => false
noncomputable def f_makeMap (t : TypeId) (r : Option Operand) : Arm := fun e h k => match r with
  | none => k (.map (some h.size)) (h.push (.map [] 0))
  | some x => match T.desc t, fval x e with
    | some (.map _ _), .int _ _ => k (.map (some h.size)) (h.push (.map [] 0))
    | _, _ => false
noncomputable def f_lookup (t : TypeId) (x i : Operand) (ok : Bool) : Arm := fun e h k => fSome (lookupA T t (fval x e) (fval i e) ok h) h k
noncomputable def f_update (t : TypeId) (m i x : Operand) : Arm := fun e h k => fMem (updateA T t (fval m e) (fval i e) (fval x e) h) k
noncomputable def f_mapEntry (t : TypeId) (m i : Operand) : Arm := fun e h k => fBoth (entryA T t (fval m e) (fval i e) h) k
noncomputable def f_entryStore (_ : TypeId) (m s x : Operand) : Arm := fun e h k => fMem (entryStoreA (fval m e) (fval s e) (fval x e) h) k
noncomputable def f_call (o : Oper) (c : Call) : Arm := match c.callee with
  | .value f => f_value C f c.args.toList
  | .builtin b => f_builtin P T b o c.argTypes.toList c.args.toList
  | .invoke r name => f_invoke T C r name c.args.toList

noncomputable def fOp (o : Oper) : Arm :=
  Op.casesOn (motive := fun _ => Arm) o.op f_move f_move f_pick (f_alloc T) f_box (f_build T) (f_buildSlice T) (f_update T) (f_load T) (f_store T) f_no1 f_no1 f_nilCheck (f_binOp P T)
    (fun _ _ _ => f_pure P o) (f_convert P T o) f_no2 (f_iface T) f_makeFunc (f_makeMap T) f_no2 (f_makeSlice T) (f_slice T) (f_fieldAddr T) (f_field T) (f_indexAddr T) (fun _ _ _ => f_pure P o)
    (f_lookup T) (f_update T) (f_mapEntry T) f_entryStore f_no2 f_no2 f_no1 (f_assert T) f_extract (f_call P T C o) f_no1 f_no1 f_no1 f_no2 f_no3 f_no2

/-! ### Regions -/
noncomputable def fWant (ops : List Oper) (g : Option (Nat × Bool)) (e : FE) (a b : Bool) : Bool := match g with
  | none => a
  | some (j, c) => match (ops[j]?).bind (·.dst) with
    | some t => (match ET.get (pathOf t) e.t with
      | .bool d => (match d, c with | true, true => a | false, false => a | _, _ => b)
      | _ => b)
    | none => b
def fLow (h : Heap) (k : Heap → Bool) : Bool := match h.low with
  | 0 => k ⟨h.size, h.tr, 0⟩
  | n + 1 => k ⟨h.size, h.tr, n + 1⟩
noncomputable def fOne (ops : List Oper) (o : Oper) (next : FE → Heap → (FE → Heap → Bool) → Bool) (e : FE) (h : Heap) (k : FE → Heap → Bool) : Bool :=
  fWant ops o.guard e (fOp P T C o e h fun v h1 => fLow h1 fun h' => fPut o.dst v e fun e' => next e' h' k) (fPut o.dst undef e fun e' => next e' h k)
noncomputable def fOps (ops : List Oper) (l : List Oper) : FE → Heap → (FE → Heap → Bool) → Bool :=
  List.rec (motive := fun _ => FE → Heap → (FE → Heap → Bool) → Bool) (fun e h k => k e h) (fun o _ ih => fOne P T C ops o ih) l

def apartAll (ops : Array Oper) (ms : List Nat) : Bool :=
  (List.range ops.size).all fun j => match ops[j]? with
    | some oj => oj.after.toList.all (fun e => !Region.binds .any e || decide (e.on < j)) &&
        (List.range j).all fun i => (ms.getD j 0).testBit i || (match ops[i]? with
          | some oi => oi.apart ops oj
          | none => true)
    | none => true
def blindAt (ops : Array Oper) (i : Nat) : Bool := match ops[i]? with
  | some o => opBlind T o
  | none => true
def loose (ops : Array Oper) (ms : List Nat) : List (Nat × Nat) :=
  (List.range ops.size).flatMap fun j => (List.range j).filterMap fun i => if (ms.getD j 0).testBit i || blindAt T ops i || blindAt T ops j then none else some (i, j)
def looseOk (ks : List Nat) : List (Nat × Nat) → Bool
  | [] => true
  | (i, j) :: r => kOk (ks.getD i 2) (ks.getD j 2) && looseOk ks r
def drawText (ops : Array Oper) : Option (List (Nat × Nat)) := if apartAll ops (masks ops.toList []) then some (loose T ops (masks ops.toList [])) else none
noncomputable def fKind (o : Oper) (e : FE) (n low : Nat) : Nat := match Nat.ble n low with
  | true => (match o.op with
    | .load _ a => (match fval a e with
      | .pointer (some x) => 3 + 3 * x.block
      | _ => 1)
    | .buildSlice _ _ _ => 4 + 3 * n
    | _ => 1)
  | false => (match o.op with
    | .store _ a _ => (match fval a e with
      | .pointer (some x) => 5 + 3 * x.block
      | _ => 2)
    | _ => 2)
noncomputable def fOneK (ops : List Oper) (o : Oper) (next : List Nat → FE → Heap → (List Nat → FE → Heap → Bool) → Bool) (ks : List Nat) (e : FE) (h : Heap) (k : List Nat → FE → Heap → Bool) : Bool :=
  fWant ops o.guard e (fOp P T C o e { h with low := h.size } fun v h' => fPut o.dst v e fun e' => match opBlind T o with
      | true => fLow { h' with low := min h.low h'.low } fun h2 => next (0 :: ks) e' h2 k
      | false => fLow { h' with low := min h.low h'.low } fun h2 => next (fKind o e h.size h'.low :: ks) e' h2 k)
    (fPut o.dst undef e fun e' => next (0 :: ks) e' h k)
noncomputable def fOpsK (ops : List Oper) (l : List Oper) : List Nat → FE → Heap → (List Nat → FE → Heap → Bool) → Bool :=
  List.rec (motive := fun _ => List Nat → FE → Heap → (List Nat → FE → Heap → Bool) → Bool) (fun ks e h k => k ks e h) (fun o _ ih => fOneK P T C ops o ih) l
noncomputable def fDraw (ops : Array Oper) (e : FE) (h : Heap) (k : FE → Heap → Bool) : Bool :=
  match drawText T ops with
  | some ps => fOpsK P T C ops.toList ops.toList [] e h fun ks e' h' => match looseOk ks.reverse ps with
    | true => k e' h'
    | false => false
  | none => false

/-! ### Code -/
abbrev FQ := Ex → FE → Heap → Bool
abbrev FC := FE → Heap → FQ → Bool
noncomputable def fThen (b : FC) (q : FQ) : FQ := fun x => Ex.rec (motive := fun _ => FE → Heap → Bool) (fun e h => b e h q) (fun i => q (.exit i)) (q .ret) x
noncomputable def fBlock (id : Nat) (q : FQ) : FQ := fun x => Ex.rec (motive := fun _ => FE → Heap → Bool) (q .normal) (fun i e h => match Nat.beq i id with | true => q .normal e h | false => q (.exit i) e h) (q .ret) x
noncomputable def fRound (next : FC) (q : FQ) : FQ := fun x => Ex.rec (motive := fun _ => FE → Heap → Bool) (fun e h => next e h q) (fun i => q (.exit i)) (q .ret) x
noncomputable def fLoop (c : FC) (n : Nat) : FC := Nat.rec (motive := fun _ => FC) (fun _ _ _ => false) (fun _ ih e h q => c e h (fRound ih q)) n
def c_skip : FC := fun e h q => q .normal e h
noncomputable def c_region (_ : Nat) (ops : Array Oper) (d : Bool) : FC := fun e h q => match d with
  | false => fOps P T C ops.toList ops.toList e h (q .normal)
  | true => fDraw P T C ops e h (q .normal)
noncomputable def c_seq (_ _ : Code) (a b : FC) : FC := fun e h q => a e h (fThen b q)
noncomputable def c_cond (c : Operand) (_ _ : Code) (a b : FC) : FC := fun e h q => fBool (fval c e) (a e h q) (b e h q)
noncomputable def c_block (id : Nat) (_ : Code) (c : FC) : FC := fun e h q => c e h (fBlock id q)
noncomputable def c_loop (fuel : Nat) (_ : Code) (c : FC) : FC := fLoop c fuel
def c_exit (id : Nat) : FC := fun e h q => q (.exit id) e h
def c_ret : FC := fun e h q => q .ret e h
def c_label (_ : Nat) : FC := fun e h q => q .normal e h
noncomputable def fEnv (e : FE) : List Value := (List.range e.n).map fun i => ET.get (pathOf i) e.t
def fAfter (l : Nat) (e : FE) (h : Heap) (q : FQ) : Bool :=
  match h.get l with
  | some (.loop env ps assign body st pend) => (match st with
    | .busy => false
    | _ => (match pend with
      | none => q .normal e (h.set l (.loop env ps assign body .exhausted pend))
      | some (.exit id) => q (.exit id) e (h.set l (.loop env ps assign body .exhausted pend))
      | some .ret => q .ret e (h.set l (.loop env ps assign body .exhausted pend))
      | _ => false))
  | _ => false
noncomputable def c_range (rd : Option Nat) (g : Operand) (ps : Array Tmp) (assign body : Code) (_ _ : FC) : FC := fun e h q => match fval g e with
  | .func (.func f) first captured => (match aroundOk rd h && hasBody T f with
    | true => C (.func f) (first.toList ++ [.func (.yield h.size) #[] #[]] ++ captured.toList) (h.push (.loop (fEnv e) ps.toList assign body .ready none)) fun _ h2 => fAfter h.size e h2 q
    | false => false)
  | _ => false
noncomputable def c_scope (_ : Code) (c : FC) : FC := c
noncomputable def fCode (rd : Option Nat) (fuel : Nat) (c : Code) : FC :=
  Code.rec (motive := fun _ => FC) c_skip (c_region P T C) c_seq c_cond c_block (c_loop fuel) (c_range T C rd) c_exit c_scope c_label (fun _ _ _ _ => false) c_ret (fun _ _ _ _ => false) c

noncomputable def fRes (r : ResultVar) (e : FE) (h : Heap) : Option Value := match r with
  | .tmp t => some (ET.get (pathOf t) e.t)
  | .cell a y => loadA T y (ET.get (pathOf a) e.t) h
noncomputable def fFin (fn : Func) (k : FK) : FQ := fun x e h => match x with
  | .exit _ => false
  | _ => match fn.results.toList with
    | [r] => fSome (fRes T r e h) h k
    | rs => (match rs.mapM fun r => fRes T r e h with
      | some vs => k (.tuple vs.toArray) h
      | none => false)
end
noncomputable def fEnter (l : List Value) (i : Nat) (t : ET) (k : ET → Bool) : Bool :=
  List.rec (motive := fun _ => Nat → ET → Bool) (fun _ t => k t) (fun v _ ih i t => ET.setK (pathOf i) v t (ih (i + 1))) l i t
def fEndRound (A : Nat) (jump : Option Code) (h : Heap) (k : FK) : Bool :=
  match h.get A with
  | some (.loop env ps assign body _ _) => k (.bool jump.isNone) (h.set A (.loop env ps assign body (if jump.isNone then .ready else .done) jump))
  | _ => false
noncomputable def fRoundEnd (A : Nat) (k : FK) : FQ := fun x => Ex.rec (motive := fun _ => FE → Heap → Bool) (fun _ h => fEndRound A none h k) (fun id _ h => fEndRound A (some (.exit id)) h k) (fun _ h => fEndRound A (some .ret) h k) x
noncomputable def fRoundMid (F : Code → FC) (A : Nat) (body : Code) (k : FK) : FQ := fun x => Ex.rec (motive := fun _ => FE → Heap → Bool)
  (fun e h => match h.get A with
    | some (.loop env ps assign body1 .ready pend) => F body e (h.set A (.loop env ps assign body1 .busy pend)) (fRoundEnd A k)
    | _ => false) (fun _ _ _ => false) (fun _ _ => false) x
noncomputable def fYield (F : Code → FC) (A : Nat) (args : List Value) (h : Heap) (k : FK) : Bool :=
  match h.get A with
  | some (.loop env ps assign body _ _) => (match Nat.beq args.length ps.length with
    | true => fEnter (setAll env ps args) 0 .leaf fun t => F assign ⟨env.length, t⟩ h (fRoundMid F A body k)
    | false => false)
  | _ => false
/-! ### A function that defers one call -/
noncomputable def fPre (F : Code → FC) : List Code → FE → Heap → (FE → Heap → Bool) → Bool
  | [], e, h, k => k e h
  | c :: cs, e, h, k => F c e h fun x e' h' => match x with
    | .normal => fPre F cs e' h' k
    | _ => false
noncomputable def fLeave (T : Tab) (F : Code → FC) (fn : Func) (g : Value) (e3 : FE) (h3 : Heap) (k : FK) : Bool := match g with
  | .func (.func g) fi ca => (match T.fn g with
    | some fg => (match fg.body with
      | some cg => (match noRange cg && Nat.ble (fi.toList ++ ca.toList).length fg.ntmps with
        | true => fEnter (fi.toList ++ ca.toList) 0 .leaf fun t => F cg ⟨fg.ntmps, t⟩ h3 (fFin T fg fun _ h4 => fFin T fn k .ret e3 h4)
        | false => false)
      | none => false)
    | none => false)
  | _ => false
noncomputable def fDefer (P : Program) (T : Tab) (C : Fn → List Value → Heap → FK → Bool) (F : Code → FC) (fn : Func) (c : Code) (e : FE) (h : Heap) (k : FK) : Bool := match splitD c with
  | some (pre, m, t, rest) => (match pre.all noRange && noRange rest with
    | true => fPre F pre e h fun e1 h1 => fOp P T C m e1 h1 fun v h2 => fPut m.dst v e1 fun e2 => F rest e2 h2 fun x e3 h3 => match x with
      | .exit _ => false
      | _ => fLeave T F fn (ET.get (pathOf t) e2.t) e3 h3 k
    | false => false)
  | none => false
noncomputable def fFunc (P : Program) (T : Tab) (ov : Ov) (C : Fn → List Value → Heap → FK → Bool) (F : Code → FC) (f : FuncId) (args : List Value) (h : Heap) (k : FK) : Bool :=
  match ov f with
  | some g => fBoth (g args h) k
  | none => match T.fn f with
    | some fn => match fn.body with
      | some c => match Nat.ble args.length fn.ntmps with
        | true => fEnter args 0 .leaf fun t => (match T.dfr f with
          | true => fDefer P T C F fn c ⟨fn.ntmps, t⟩ h k
          | false => F c ⟨fn.ntmps, t⟩ h (fFin T fn k))
        | false => false
      | none => false
    | none => false
noncomputable def fcall (P : Program) (T : Tab) (ov : Ov) (fuel : Nat) (n : Nat) : Fn → List Value → Heap → FK → Bool :=
  Nat.rec (motive := fun _ => Fn → List Value → Heap → FK → Bool) (fun _ _ _ _ => false) (fun _ ih f args h k => match f with
    | .func f => fFunc P T ov ih (fCode P T ih none fuel) f args h k
    | .yield A => fYield (fCode P T ih (some A) fuel) A args h k
    | _ => false) n
end Go.Am
