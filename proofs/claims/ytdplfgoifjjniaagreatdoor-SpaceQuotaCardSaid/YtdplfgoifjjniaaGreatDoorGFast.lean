/- The plain machine, told so that the kernel runs it fast: every step hands what it has on, and says yes or no. Definitions alone; no condition. -/
import Derived.Test.YtdplfgoifjjniaaGreatDoorG2
namespace Go.Am

/-! ### The places of a frame -/
inductive Pth where
 |here
 |l (p:Pth)
 |r (p:Pth)
def zmJ:Nat→Nat→Pth
 |0,_=>.here
 |n+1,i=>match i with
  |0=>.here
  |i+1=>match i % 2 with
   |0=>.l (zmJ n (i / 2))
   |_+1=>.r (zmJ n (i / 2))
def zcC (i:Nat):Pth:=zmJ (i+1) i
inductive ET where
 |leaf
 |node (v:Value) (l r:ET)
noncomputable def ET.get (p:Pth):ET→Value :=
 Pth.rec (motive:=fun _=>ET→Value) (fun t=>ET.casesOn t undef fun v _ _=>v) (fun _ ih t=>ET.casesOn t undef fun _ l _=>ih l) (fun _ ih t=>ET.casesOn t undef fun _ _ r=>ih r) p
noncomputable def ET.set (p:Pth) (v:Value):ET→ET :=
 Pth.rec (motive:=fun _=>ET→ET) (fun t=>ET.casesOn t (.node v .leaf .leaf) fun _ l r=>.node v l r) (fun _ ih t=>ET.casesOn t (.node undef (ih .leaf) .leaf) fun x l r=>.node x (ih l) r)
  (fun _ ih t=>ET.casesOn t (.node undef .leaf (ih .leaf)) fun x l r=>.node x l (ih r)) p
noncomputable def ET.setK (p:Pth) (v:Value):ET→(ET→Bool)→Bool :=
 Pth.rec (motive:=fun _=>ET→(ET→Bool)→Bool) (fun t k=>ET.casesOn t (k (.node v .leaf .leaf)) fun _ l r=>k (.node v l r)) (fun _ ih t k=>ET.casesOn t (ih .leaf fun l=>k (.node undef l .leaf)) fun x l r=>ih l fun l=>k (.node x l r))
  (fun _ ih t k=>ET.casesOn t (ih .leaf fun r=>k (.node undef .leaf r)) fun x l r=>ih r fun r=>k (.node x l r)) p

structure FE where
 n:Nat
 t:ET

abbrev FK:=Value→Heap→Bool
abbrev Arm:=FE→Heap→FK→Bool

noncomputable def fval (o:Operand):FE→Value :=
 Operand.rec (motive:=fun _=>FE→Value) (fun t e=>ET.get (zcC t) e.t) (fun v _=>v) (fun g _=>.pointer (some ⟨g,0,none⟩)) (fun f _=>.func (.func f) #[] #[]) o
noncomputable def fPut (d:Option Tmp) (v:Value) (e:FE) (k:FE→Bool):Bool:=match d with
 |none=>k e
 |some i=>match Nat.blt i e.n with
  |true=>ET.setK (zcC i) v e.t fun t=>k ⟨e.n,t⟩
  |false=>k e

/-! ### The operations -/
def zcJ (r:Option Value) (h:Heap) (k:FK):Bool:=match r with
 |some v=>k v h
 |none=>false
def fMem (r:Option Heap) (k:FK):Bool:=match r with
 |some h=>k undef h
 |none=>false
def zhI (r:Option (Value × Heap)) (k:FK):Bool:=match r with
 |some (v,h)=>k v h
 |none=>false
def znR (v:Value) (a b:Bool):Bool:=match v with
 | .bool t=>(match t with|true=>a|false=>b)
 |_=>false

noncomputable def zxp (x:Operand):Arm:=fun e h k=>k (fval x e) h
noncomputable def zAk (c a b:Operand):Arm:=fun e h k=>znR (fval c e) (k (fval a e) h) (k (fval b e) h)
noncomputable def zDc (t:TypeId) (x:Operand):Arm:=fun e h k=>k (.pointer (some ⟨h.size,0,none⟩)) (h.push (.row (fval x e).cells.toList t false))
def zDd:Arm:=fun _ _ _=>false
def zqc {α:Type}:α→Arm:=fun _ _ _ _=>false
def zqd {α β:Type}:α→β→Arm:=fun _ _ _ _ _=>false
def zDe {α β γ:Type}:α→β→γ→Arm:=fun _ _ _ _ _ _=>false
noncomputable def zj0 (l:List (Nat × Operand)) (e:FE):List (Nat × Value):=List.rec (motive:=fun _=>List (Nat × Value)) [] (fun p _ ih=>(p.1,fval p.2 e)::ih) l
noncomputable def zjs (l:List Operand) (e:FE):List Value:=List.rec (motive:=fun _=>List Value) [] (fun x _ ih=>fval x e::ih) l
noncomputable def zn6 (o:Option Operand) (e:FE):Option Value:=match o with
 |some x=>some (fval x e)
 |none=>none
noncomputable def zg3 (x:Operand):Arm:=fun e h k=>match fval x e with
 | .pointer (some a)=>k (.pointer (some a)) h
 | .func (.func f) a b=>k (.func (.func f) a b) h
 | .iface t a=>k (.iface t a) h
 |_=>false
noncomputable def zqa (fn:Fn) (first captured:Array Operand):Arm:=fun e h k=>match fn with
 | .func f=>k (.func (.func f) ⟨zjs first.toList e⟩ ⟨zjs captured.toList e⟩) h
 |_=>false
noncomputable def zic (t:Operand) (i:Nat):Arm:=fun e h k=>match fval t e with
 | .tuple vs=>zcJ (vs.toList[i]?) h k
 |_=>false

section
variable (P:Program) (T:Tab)
noncomputable def znU (t:TypeId):Arm:=fun _ h k=>match T.info t with
 |some (_,_,z)=>k (.pointer (some ⟨h.size,0,none⟩)) (h.push (.row z t false))
 |none=>false
noncomputable def zyB (t:TypeId) (ps:Array (Nat × Operand)):Arm:=fun e h k=>zcJ (zbZ T t (zj0 ps.toList e)) h k
noncomputable def zma (t:TypeId) (n:Nat) (ps:Array (Nat × Operand)):Arm:=fun e h k=>zhI (zaB T t n (zj0 ps.toList e) h) k
noncomputable def zAj (t:TypeId) (a:Operand):Arm:=fun e h k=>zcJ (zaL T t (fval a e) h) h k
noncomputable def zyH (t:TypeId) (a x:Operand):Arm:=fun e h k=>fMem (zaZ T t (fval a e) (fval x e) h) k
noncomputable def zyA (op:BinOp) (t:TypeId) (x y:Operand) (_:TypeId):Arm:=fun e h k=>zcJ (binA P T op t (fval x e) (fval y e)) h k
noncomputable def znY (t:TypeId) (l c:Operand):Arm:=fun e h k=>zhI (zcQ T t (fval l e) (fval c e) h) k
noncomputable def zyG (t:TypeId) (x:Operand) (l hi m:Option Operand):Arm:=fun e h k=>zcJ (zbl T t (fval x e) (zn6 l e) (zn6 hi e) (zn6 m e)) h k
noncomputable def znW (s:TypeId) (x:Operand) (f:Nat):Arm:=fun e h k=>zcJ (zak T s (fval x e) f) h k
noncomputable def zyD (s:TypeId) (x:Operand) (f:Nat):Arm:=fun e h k=>zcJ (zih T s (fval x e) f) h k
noncomputable def znX (t:TypeId) (x i:Operand):Arm:=fun e h k=>zcJ (zao T t (fval x e) (fval i e)) h k

noncomputable def zie (o:Oper):Arm:=fun e h k =>
 match (zjs o.op.operands.toList e).all plain with
 |true=>match zaJ P (execOp (fun x=>fval x e) o) with
  |some (.value v)=>(match plain v with|true=>k v h|false=>false)
  |_=>false
 |false=>false

variable (C:Fn→List Value→Heap→FK→Bool)
noncomputable def zkR (ts:List TypeId) (xs:List Operand):Arm:=fun e h k=>match ts,xs with
 | [t,u],[s,x]=>(match zed T t u with|true=>zhI (zaH T t (fval s e) (fval x e) h) k|false=>false)
 |_,_=>false
noncomputable def zsc (ts:List TypeId) (xs:List Operand):Arm:=fun e h k=>match ts,xs with
 | [t,_],[d,s]=>zhI (znH T t (fval d e) (fval s e) h) k
 |_,_=>false
noncomputable def znV (ts:List TypeId) (xs:List Operand):Arm:=fun e h k=>match ts,xs with
 | [t],[x]=>fMem (zcs T t (fval x e) h) k
 |_,_=>false
noncomputable def zyF (ts:List TypeId) (xs:List Operand):Arm:=fun e h k=>match ts,xs with
 |t::_,[x]=>zcJ (lenA T t (fval x e) h) h k
 |_,_=>false
noncomputable def zkS (ts:List TypeId) (xs:List Operand):Arm:=fun e h k=>match ts,xs with
 |t::_,[m,i]=>fMem (zc4 T t (fval m e) (fval i e) h) k
 |_,_=>false
noncomputable def zyC (ts:List TypeId) (xs:List Operand):Arm:=fun e h k=>match ts,xs with
 |t::_,[x]=>zcJ (capA T t (fval x e)) h k
 |_,_=>false
noncomputable def zib (o:Oper) (s d:TypeId) (x:Operand):Arm:=fun e h k=>match zbU T s with
 |true=>zcJ (zfp T s d (fval x e) h) h k
 |false=>match zbU T d with
  |true=>(match zft T s with|true=>zhI (zdP T d (fval x e) h) k|false=>false)
  |false=>zie P o e h k
noncomputable def zyE (t:TypeId) (x:Operand):Arm:=fun e h k=>zcJ (zhr T t (fval x e)) h k
noncomputable def zu5 (x:Operand) (_ t:TypeId) (ok:Bool):Arm:=fun e h k=>zcJ (zfW T (fval x e) t ok) h k
noncomputable def zkT (r:Operand) (name:String) (xs:List Operand):Arm:=fun e h k=>match fval r e with
 | .iface t x=>(match zcy T t x name h with
  |some (f,y)=>C (.func f) (y::zjs xs e) h k
  |none=>false)
 |_=>false
noncomputable def zmb (b:Builtin) (o:Oper) (ts:List TypeId) (xs:List Operand):Arm :=
 match b with
 | .append=>zkR T ts xs
 | .copy=>zsc T ts xs
 | .clear=>znV T ts xs
 | .len=>zyF T ts xs
 | .min=>zie P o
 | .max=>zie P o
 | .delete=>zkS T ts xs
 | .cap=>zyC T ts xs
 |_=>zDd
def catL (l:List Value):List Value→List Value
 | []=>l
 |x::m=>l++(x::m)
noncomputable def znZ (f:Operand) (xs:List Operand):Arm:=fun e h k=>match fval f e with
 | .func (.func g) first captured=>C (.func g) (first.toList++catL (zjs xs e) captured.toList) h k
 | .func (.yield A) first captured=>(match first.isEmpty && captured.isEmpty with|true=>C (.yield A) (zjs xs e) h k|false=>false)
 |_=>false
noncomputable def zid (t:TypeId) (r:Option Operand):Arm:=fun e h k=>match r with
 |none=>k (.map (some h.size)) (h.push (.map [] 0))
 |some x=>match T.desc t,fval x e with
  |some (.map _ _),.int _ _=>k (.map (some h.size)) (h.push (.map [] 0))
  |_,_=>false
noncomputable def zu6 (t:TypeId) (x i:Operand) (ok:Bool):Arm:=fun e h k=>zcJ (zdB T t (fval x e) (fval i e) ok h) h k
noncomputable def zpf (t:TypeId) (m i x:Operand):Arm:=fun e h k=>fMem (zbE T t (fval m e) (fval i e) (fval x e) h) k
noncomputable def zqb (t:TypeId) (m i:Operand):Arm:=fun e h k=>zhI (zfI T t (fval m e) (fval i e) h) k
noncomputable def zmc (_:TypeId) (m s x:Operand):Arm:=fun e h k=>fMem (za8 (fval m e) (fval s e) (fval x e) h) k
noncomputable def zAi (o:Oper) (c:Call):Arm:=match c.callee with
 | .value f=>znZ C f c.args.toList
 | .builtin b=>zmb P T b o c.argTypes.toList c.args.toList
 | .invoke r name=>zkT T C r name c.args.toList

noncomputable def fOp (o:Oper):Arm :=
 Op.casesOn (motive:=fun _=>Arm) o.op zxp zxp zAk (znU T) zDc (zyB T) (zma T) (zpf T) (zAj T) (zyH T) zqc zqc zg3 (zyA P T)
  (fun _ _ _=>zie P o) (zib P T o) zqd (zyE T) zqa (zid T) zqd (znY T) (zyG T) (znW T) (zyD T) (znX T) (fun _ _ _=>zie P o)
  (zu6 T) (zpf T) (zqb T) zmc zqd zqd zqc (zu5 T) zic (zAi P T C o) zqc zqc zqc zqd zDe zqd

/-! ### Regions -/
noncomputable def zu4 (ops:List Oper) (g:Option (Nat × Bool)) (e:FE) (a b:Bool):Bool:=match g with
 |none=>a
 |some (j,c)=>match (ops[j]?).bind (·.dst) with
  |some t=>(match ET.get (zcC t) e.t with
   | .bool d=>(match d,c with|true,true=>a|false,false=>a|_,_=>b)
   |_=>b)
  |none=>b
def fLow (h:Heap) (k:Heap→Bool):Bool:=match h.low with
 |0=>k ⟨h.size,h.tr,0⟩
 |n+1=>k ⟨h.size,h.tr,n+1⟩
noncomputable def fOne (ops:List Oper) (o:Oper) (next:FE→Heap→(FE→Heap→Bool)→Bool) (e:FE) (h:Heap) (k:FE→Heap→Bool):Bool :=
 zu4 ops o.guard e (fOp P T C o e h fun v h1=>fLow h1 fun h'=>fPut o.dst v e fun e'=>next e' h' k) (fPut o.dst undef e fun e'=>next e' h k)
noncomputable def fOps (ops:List Oper) (l:List Oper):FE→Heap→(FE→Heap→Bool)→Bool :=
 List.rec (motive:=fun _=>FE→Heap→(FE→Heap→Bool)→Bool) (fun e h k=>k e h) (fun o _ ih=>fOne P T C ops o ih) l

def zda (ops:Array Oper) (ms:List Nat):Bool :=
 (List.range ops.size).all fun j=>match ops[j]? with
  |some oj=>oj.after.toList.all (fun e => !Region.binds .any e || decide (e.on < j)) &&
   (List.range j).all fun i=>(ms.getD j 0).testBit i || (match ops[i]? with
    |some oi=>oi.apart ops oj
    |none=>true)
  |none=>true
def zbY (ops:Array Oper) (i:Nat):Bool:=match ops[i]? with
 |some o=>zbw T o
 |none=>true
def zy0 (ops:Array Oper) (ms:List Nat):List (Nat × Nat) :=
 (List.range ops.size).flatMap fun j=>(List.range j).filterMap fun i=>if (ms.getD j 0).testBit i || zbY T ops i || zbY T ops j then none else some (i,j)
def ziv (ks:List Nat):List (Nat × Nat)→Bool
 | []=>true
 |(i,j)::r=>kOk (ks.getD i 2) (ks.getD j 2) && ziv ks r
def zpd (ops:Array Oper):Option (List (Nat × Nat)):=if zda ops (zdC ops.toList []) then some (zy0 T ops (zdC ops.toList [])) else none
noncomputable def zyx (o:Oper) (e:FE) (n low:Nat):Nat:=match Nat.ble n low with
 |true=>(match o.op with
  | .load _ a=>(match fval a e with
   | .pointer (some x)=>3+3*x.block
   |_=>1)
  | .buildSlice _ _ _=>4+3*n
  |_=>1)
 |false=>(match o.op with
  | .store _ a _=>(match fval a e with
   | .pointer (some x)=>5+3*x.block
   |_=>2)
  |_=>2)
noncomputable def zAg (ops:List Oper) (o:Oper) (next:List Nat→FE→Heap→(List Nat→FE→Heap→Bool)→Bool) (ks:List Nat) (e:FE) (h:Heap) (k:List Nat→FE→Heap→Bool):Bool :=
 zu4 ops o.guard e (fOp P T C o e { h with low:=h.size } fun v h'=>fPut o.dst v e fun e'=>match zbw T o with
     |true=>fLow { h' with low:=min h.low h'.low } fun h2=>next (0::ks) e' h2 k
     |false=>fLow { h' with low:=min h.low h'.low } fun h2=>next (zyx o e h.size h'.low::ks) e' h2 k)
  (fPut o.dst undef e fun e'=>next (0::ks) e' h k)
noncomputable def zyz (ops:List Oper) (l:List Oper):List Nat→FE→Heap→(List Nat→FE→Heap→Bool)→Bool :=
 List.rec (motive:=fun _=>List Nat→FE→Heap→(List Nat→FE→Heap→Bool)→Bool) (fun ks e h k=>k ks e h) (fun o _ ih=>zAg P T C ops o ih) l
noncomputable def zyu (ops:Array Oper) (e:FE) (h:Heap) (k:FE→Heap→Bool):Bool :=
 match zpd T ops with
 |some ps=>zyz P T C ops.toList ops.toList [] e h fun ks e' h'=>match ziv ks.reverse ps with
  |true=>k e' h'
  |false=>false
 |none=>false

/-! ### Code -/
abbrev FQ:=Ex→FE→Heap→Bool
abbrev FC:=FE→Heap→FQ→Bool
noncomputable def zDb (b:FC) (q:FQ):FQ:=fun x=>Ex.rec (motive:=fun _=>FE→Heap→Bool) (fun e h=>b e h q) (fun i=>q (.exit i)) (q .ret) x
noncomputable def zAf (id:Nat) (q:FQ):FQ:=fun x=>Ex.rec (motive:=fun _=>FE→Heap→Bool) (q .normal) (fun i e h=>match Nat.beq i id with|true=>q .normal e h|false=>q (.exit i) e h) (q .ret) x
noncomputable def zAh (next:FC) (q:FQ):FQ:=fun x=>Ex.rec (motive:=fun _=>FE→Heap→Bool) (fun e h=>next e h q) (fun i=>q (.exit i)) (q .ret) x
noncomputable def zyy (c:FC) (n:Nat):FC:=Nat.rec (motive:=fun _=>FC) (fun _ _ _=>false) (fun _ ih e h q=>c e h (zAh ih q)) n
def zz6:FC:=fun e h q=>q .normal e h
noncomputable def zuV (_:Nat) (ops:Array Oper) (d:Bool):FC:=fun e h q=>match d with
 |false=>fOps P T C ops.toList ops.toList e h (q .normal)
 |true=>zyu P T C ops e h (q .normal)
noncomputable def zC8 (_ _:Code) (a b:FC):FC:=fun e h q=>a e h (zDb b q)
noncomputable def zz3 (c:Operand) (_ _:Code) (a b:FC):FC:=fun e h q=>znR (fval c e) (a e h q) (b e h q)
noncomputable def zyf (id:Nat) (_:Code) (c:FC):FC:=fun e h q=>c e h (zAf id q)
noncomputable def zz5 (fuel:Nat) (_:Code) (c:FC):FC:=zyy c fuel
def zz4 (id:Nat):FC:=fun e h q=>q (.exit id) e h
def zC7:FC:=fun e h q=>q .ret e h
def zyg (_:Nat):FC:=fun e h q=>q .normal e h
noncomputable def fEnv (e:FE):List Value:=(List.range e.n).map fun i=>ET.get (zcC i) e.t
def zr5 (l:Nat) (e:FE) (h:Heap) (q:FQ):Bool :=
 match h.get l with
 |some (.loop env ps assign body st pend)=>(match st with
  | .busy=>false
  |_=>(match pend with
   |none=>q .normal e (h.set l (.loop env ps assign body .exhausted pend))
   |some (.exit id)=>q (.exit id) e (h.set l (.loop env ps assign body .exhausted pend))
   |some .ret=>q .ret e (h.set l (.loop env ps assign body .exhausted pend))
   |_=>false))
 |_=>false
noncomputable def znC (rd:Option Nat) (g:Operand) (ps:Array Tmp) (assign body:Code) (_ _:FC):FC:=fun e h q=>match fval g e with
 | .func (.func f) first captured=>(match zhP rd h && zkW T f with
  |true=>C (.func f) (first.toList++[.func (.yield h.size) #[] #[]]++captured.toList) (h.push (.loop (fEnv e) ps.toList assign body .ready none)) fun _ h2=>zr5 h.size e h2 q
  |false=>false)
 |_=>false
noncomputable def zyh (_:Code) (c:FC):FC:=c
noncomputable def zf0 (rd:Option Nat) (fuel:Nat) (c:Code):FC :=
 Code.rec (motive:=fun _=>FC) zz6 (zuV P T C) zC8 zz3 zyf (zz5 fuel) (znC T C rd) zz4 zyh zyg (fun _ _ _ _=>false) zC7 (fun _ _ _ _=>false) c

noncomputable def fRes (r:ResultVar) (e:FE) (h:Heap):Option Value:=match r with
 | .tmp t=>some (ET.get (zcC t) e.t)
 | .cell a y=>zaL T y (ET.get (zcC a) e.t) h
noncomputable def fFin (fn:Func) (k:FK):FQ:=fun x e h=>match x with
 | .exit _=>false
 |_=>match fn.results.toList with
  | [r]=>zcJ (fRes T r e h) h k
  |rs=>(match rs.mapM fun r=>fRes T r e h with
   |some vs=>k (.tuple vs.toArray) h
   |none=>false)
end
noncomputable def zl8 (l:List Value) (i:Nat) (t:ET) (k:ET→Bool):Bool :=
 List.rec (motive:=fun _=>Nat→ET→Bool) (fun _ t=>k t) (fun v _ ih i t=>ET.setK (zcC i) v t (ih (i+1))) l i t
def ze1 (A:Nat) (jump:Option Code) (h:Heap) (k:FK):Bool :=
 match h.get A with
 |some (.loop env ps assign body _ _)=>k (.bool jump.isNone) (h.set A (.loop env ps assign body (if jump.isNone then .ready else .done) jump))
 |_=>false
noncomputable def zl9 (A:Nat) (k:FK):FQ:=fun x=>Ex.rec (motive:=fun _=>FE→Heap→Bool) (fun _ h=>ze1 A none h k) (fun id _ h=>ze1 A (some (.exit id)) h k) (fun _ h=>ze1 A (some .ret) h k) x
noncomputable def zsa (F:Code→FC) (A:Nat) (body:Code) (k:FK):FQ:=fun x=>Ex.rec (motive:=fun _=>FE→Heap→Bool)
 (fun e h=>match h.get A with
  |some (.loop env ps assign body1 .ready pend)=>F body e (h.set A (.loop env ps assign body1 .busy pend)) (zl9 A k)
  |_=>false) (fun _ _ _=>false) (fun _ _=>false) x
noncomputable def zsb (F:Code→FC) (A:Nat) (args:List Value) (h:Heap) (k:FK):Bool :=
 match h.get A with
 |some (.loop env ps assign body _ _)=>(match Nat.beq args.length ps.length with
  |true=>zl8 (setAll env ps args) 0 .leaf fun t=>F assign ⟨env.length,t⟩ h (zsa F A body k)
  |false=>false)
 |_=>false
/-! ### A function that defers one call -/
noncomputable def fPre (F:Code→FC):List Code→FE→Heap→(FE→Heap→Bool)→Bool
 | [],e,h,k=>k e h
 |c::cs,e,h,k=>F c e h fun x e' h'=>match x with
  | .normal=>fPre F cs e' h' k
  |_=>false
noncomputable def zr7 (T:Tab) (F:Code→FC) (fn:Func) (g:Value) (e3:FE) (h3:Heap) (k:FK):Bool:=match g with
 | .func (.func g) fi ca=>(match T.fn g with
  |some fg=>(match fg.body with
   |some cg=>(match zaW cg && Nat.ble (fi.toList++ca.toList).length fg.ntmps with
    |true=>zl8 (fi.toList++ca.toList) 0 .leaf fun t=>F cg ⟨fg.ntmps,t⟩ h3 (fFin T fg fun _ h4=>fFin T fn k .ret e3 h4)
    |false=>false)
   |none=>false)
  |none=>false)
 |_=>false
noncomputable def zr6 (P:Program) (T:Tab) (C:Fn→List Value→Heap→FK→Bool) (F:Code→FC) (fn:Func) (c:Code) (e:FE) (h:Heap) (k:FK):Bool:=match zfl c with
 |some (pre,m,t,rest)=>(match pre.all zaW && zaW rest with
  |true=>fPre F pre e h fun e1 h1=>fOp P T C m e1 h1 fun v h2=>fPut m.dst v e1 fun e2=>F rest e2 h2 fun x e3 h3=>match x with
   | .exit _=>false
   |_=>zr7 T F fn (ET.get (zcC t) e2.t) e3 h3 k
  |false=>false)
 |none=>false
noncomputable def zyw (P:Program) (T:Tab) (ov:Ov) (C:Fn→List Value→Heap→FK→Bool) (F:Code→FC) (f:FuncId) (args:List Value) (h:Heap) (k:FK):Bool :=
 match ov f with
 |some g=>zhI (g args h) k
 |none=>match T.fn f with
  |some fn=>match fn.body with
   |some c=>match Nat.ble args.length fn.ntmps with
    |true=>zl8 args 0 .leaf fun t=>(match T.dfr f with
     |true=>zr6 P T C F fn c ⟨fn.ntmps,t⟩ h k
     |false=>F c ⟨fn.ntmps,t⟩ h (fFin T fn k))
    |false=>false
   |none=>false
  |none=>false
noncomputable def zn5 (P:Program) (T:Tab) (ov:Ov) (fuel:Nat) (n:Nat):Fn→List Value→Heap→FK→Bool :=
 Nat.rec (motive:=fun _=>Fn→List Value→Heap→FK→Bool) (fun _ _ _ _=>false) (fun _ ih f args h k=>match f with
  | .func f=>zyw P T ov ih (zf0 P T ih none fuel) f args h k
  | .yield A=>zsb (zf0 P T ih (some A) fuel) A args h k
  |_=>false) n
end Go.Am
