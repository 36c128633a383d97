/- The plain machine, told so that the kernel runs it fast: every step hands what it has on, and says yes or no. Definitions alone; no condition. -/
import Derived.Test.YtdplfgoifjjniaaGreatDoorG2
namespace Go.Am

/-! ### The places of a frame -/
inductive Pth where
 |here
 |l (p:Pth)
 |r (p:Pth)
def zlI:Nat→Nat→Pth
 |0,_=>.here
 |n+1,i=>match i with
  |0=>.here
  |i+1=>match i % 2 with
   |0=>.l (zlI n (i / 2))
   |_+1=>.r (zlI n (i / 2))
def zcF (i:Nat):Pth:=zlI (i+1) i
inductive ET where
 |leaf
 |node (v:Value) (l r:ET)
noncomputable def ET.get (p:Pth):ET→Value :=
 Pth.rec (motive:=fun _=>ET→Value) (fun t=>ET.casesOn t undef fun v _ _=>v) (fun _ ih t=>ET.casesOn t undef fun _ l _=>ih l) (fun _ ih t=>ET.casesOn t undef fun _ _ r=>ih r) p
noncomputable def ET.set (p:Pth) (v:Value):ET→ET :=
 Pth.rec (motive:=fun _=>ET→ET) (fun t=>ET.casesOn t (.node v .leaf .leaf) fun _ l r=>.node v l r) (fun _ ih t=>ET.casesOn t (.node undef (ih .leaf) .leaf) fun x l r=>.node x (ih l) r)
  (fun _ ih t=>ET.casesOn t (.node undef .leaf (ih .leaf)) fun x l r=>.node x l (ih r)) p
noncomputable def ET.setK (p:Pth) (v:Value):ET→(ET→Bool)→Bool :=
 Pth.rec (motive:=fun _=>ET→(ET→Bool)→Bool) (fun t k=>ET.casesOn t (k (.node v .leaf .leaf)) fun _ l r=>k (.node v l r)) (fun _ ih t k=>ET.casesOn t (ih .leaf fun l=>k (.node undef l .leaf)) fun x l r=>ih l fun l=>k (.node x l r))
  (fun _ ih t k=>ET.casesOn t (ih .leaf fun r=>k (.node undef .leaf r)) fun x l r=>ih r fun r=>k (.node x l r)) p

structure FE where
 n:Nat
 t:ET

abbrev FK:=Value→Heap→Bool
abbrev Arm:=FE→Heap→FK→Bool

noncomputable def fval (o:Operand):FE→Value :=
 Operand.rec (motive:=fun _=>FE→Value) (fun t e=>ET.get (zcF t) e.t) (fun v _=>v) (fun g _=>.pointer (some ⟨g,0,none⟩)) (fun f _=>.func (.func f) #[] #[]) o
noncomputable def fPut (d:Option Tmp) (v:Value) (e:FE) (k:FE→Bool):Bool:=match d with
 |none=>k e
 |some i=>match Nat.blt i e.n with
  |true=>ET.setK (zcF i) v e.t fun t=>k ⟨e.n,t⟩
  |false=>k e

/-! ### The operations -/
def zcN (r:Option Value) (h:Heap) (k:FK):Bool:=match r with
 |some v=>k v h
 |none=>false
def fMem (r:Option Heap) (k:FK):Bool:=match r with
 |some h=>k undef h
 |none=>false
def zhN (r:Option (Value × Heap)) (k:FK):Bool:=match r with
 |some (v,h)=>k v h
 |none=>false
def zoA (v:Value) (a b:Bool):Bool:=match v with
 | .bool t=>(match t with|true=>a|false=>b)
 |_=>false

noncomputable def zzM (x:Operand):Arm:=fun e h k=>k (fval x e) h
noncomputable def zCM (c a b:Operand):Arm:=fun e h k=>zoA (fval c e) (k (fval a e) h) (k (fval b e) h)
noncomputable def zE4 (t:TypeId) (x:Operand):Arm:=fun e h k=>k (.pointer (some ⟨h.size,0,none⟩)) (h.push (.row (fval x e).cells.toList t false))
def zFA:Arm:=fun _ _ _=>false
def zqR {α:Type}:α→Arm:=fun _ _ _ _=>false
def zqy {α β:Type}:α→β→Arm:=fun _ _ _ _ _=>false
def zDX {α β γ:Type}:α→β→γ→Arm:=fun _ _ _ _ _ _=>false
noncomputable def zkn (l:List (Nat × Operand)) (e:FE):List (Nat × Value):=List.rec (motive:=fun _=>List (Nat × Value)) [] (fun p _ ih=>(p.1,fval p.2 e)::ih) l
noncomputable def zjD (l:List Operand) (e:FE):List Value:=List.rec (motive:=fun _=>List Value) [] (fun x _ ih=>fval x e::ih) l
noncomputable def zoF (o:Option Operand) (e:FE):Option Value:=match o with
 |some x=>some (fval x e)
 |none=>none
noncomputable def zgW (x:Operand):Arm:=fun e h k=>match fval x e with
 | .pointer (some a)=>k (.pointer (some a)) h
 | .func (.func f) a b=>k (.func (.func f) a b) h
 | .iface t a=>k (.iface t a) h
 |_=>false
noncomputable def zqU (fn:Fn) (first captured:Array Operand):Arm:=fun e h k=>match fn with
 | .func f=>k (.func (.func f) ⟨zjD first.toList e⟩ ⟨zjD captured.toList e⟩) h
 |_=>false
noncomputable def zis (t:Operand) (i:Nat):Arm:=fun e h k=>match fval t e with
 | .tuple vs=>zcN (vs.toList[i]?) h k
 |_=>false

section
variable (P:Program) (T:Tab)
noncomputable def znZ (t:TypeId):Arm:=fun _ h k=>match T.info t with
 |some (_,_,z)=>k (.pointer (some ⟨h.size,0,none⟩)) (h.push (.row z t false))
 |none=>false
noncomputable def zBf (t:TypeId) (ps:Array (Nat × Operand)):Arm:=fun e h k=>zcN (zdw T t (zkn ps.toList e)) h k
noncomputable def zms (t:TypeId) (n:Nat) (ps:Array (Nat × Operand)):Arm:=fun e h k=>zhN (zaJ T t n (zkn ps.toList e) h) k
noncomputable def zCD (t:TypeId) (a:Operand):Arm:=fun e h k=>zcN (zaR T t (fval a e) h) h k
noncomputable def zBH (t:TypeId) (a x:Operand):Arm:=fun e h k=>fMem (za8 T t (fval a e) (fval x e) h) k
noncomputable def zBD (op:BinOp) (t:TypeId) (x y:Operand) (_:TypeId):Arm:=fun e h k=>zcN (binA P T op t (fval x e) (fval y e)) h k
noncomputable def znM (t:TypeId) (l c:Operand):Arm:=fun e h k=>zhN (zcV T t (fval l e) (fval c e) h) k
noncomputable def zAr (t:TypeId) (x:Operand) (l hi m:Option Operand):Arm:=fun e h k=>zcN (zbn T t (fval x e) (zoF l e) (zoF hi e) (zoF m e)) h k
noncomputable def zos (s:TypeId) (x:Operand) (f:Nat):Arm:=fun e h k=>zcN (zaf T s (fval x e) f) h k
noncomputable def zBu (s:TypeId) (x:Operand) (f:Nat):Arm:=fun e h k=>zcN (zhn T s (fval x e) f) h k
noncomputable def zo5 (t:TypeId) (x i:Operand):Arm:=fun e h k=>zcN (zau T t (fval x e) (fval i e)) h k

noncomputable def zia (o:Oper):Arm:=fun e h k =>
 match (zjD o.op.operands.toList e).all plain with
 |true=>match zaO P (execOp (fun x=>fval x e) o) with
  |some (.value v)=>(match plain v with|true=>k v h|false=>false)
  |_=>false
 |false=>false

variable (C:Fn→List Value→Heap→FK→Bool)
noncomputable def zkO (ts:List TypeId) (xs:List Operand):Arm:=fun e h k=>match ts,xs with
 | [t,u],[s,x]=>(match zdP T t u with|true=>zhN (zaM T t (fval s e) (fval x e) h) k|false=>false)
 |_,_=>false
noncomputable def zuU (ts:List TypeId) (xs:List Operand):Arm:=fun e h k=>match ts,xs with
 | [t,_],[d,s]=>zhN (zoE T t (fval d e) (fval s e) h) k
 |_,_=>false
noncomputable def znH (ts:List TypeId) (xs:List Operand):Arm:=fun e h k=>match ts,xs with
 | [t],[x]=>fMem (zcH T t (fval x e) h) k
 |_,_=>false
noncomputable def zAZ (ts:List TypeId) (xs:List Operand):Arm:=fun e h k=>match ts,xs with
 |t::_,[x]=>zcN (lenA T t (fval x e) h) h k
 |_,_=>false
noncomputable def zkx (ts:List TypeId) (xs:List Operand):Arm:=fun e h k=>match ts,xs with
 |t::_,[m,i]=>fMem (zc6 T t (fval m e) (fval i e) h) k
 |_,_=>false
noncomputable def zAx (ts:List TypeId) (xs:List Operand):Arm:=fun e h k=>match ts,xs with
 |t::_,[x]=>zcN (capA T t (fval x e)) h k
 |_,_=>false
noncomputable def zix (o:Oper) (s d:TypeId) (x:Operand):Arm:=fun e h k=>match zbS T s with
 |true=>zcN (zfx T s d (fval x e) h) h k
 |false=>match zbS T d with
  |true=>(match zfr T s with|true=>zhN (zdL T d (fval x e) h) k|false=>false)
  |false=>zia P o e h k
noncomputable def zA2 (t:TypeId) (x:Operand):Arm:=fun e h k=>zcN (zhu T t (fval x e)) h k
noncomputable def zwU (x:Operand) (_ t:TypeId) (ok:Bool):Arm:=fun e h k=>zcN (zfZ T (fval x e) t ok) h k
noncomputable def zls (r:Operand) (name:String) (xs:List Operand):Arm:=fun e h k=>match fval r e with
 | .iface t x=>(match zcv T t x name h with
  |some (f,y)=>C (.func f) (y::zjD xs e) h k
  |none=>false)
 |_=>false
noncomputable def znh (b:Builtin) (o:Oper) (ts:List TypeId) (xs:List Operand):Arm :=
 match b with
 | .append=>zkO T ts xs
 | .copy=>zuU T ts xs
 | .clear=>znH T ts xs
 | .len=>zAZ T ts xs
 | .min=>zia P o
 | .max=>zia P o
 | .delete=>zkx T ts xs
 | .cap=>zAx T ts xs
 |_=>zFA
def catL (l:List Value):List Value→List Value
 | []=>l
 |x::m=>l++(x::m)
noncomputable def zoq (f:Operand) (xs:List Operand):Arm:=fun e h k=>match fval f e with
 | .func (.func g) first captured=>C (.func g) (first.toList++catL (zjD xs e) captured.toList) h k
 | .func (.yield A) first captured=>(match first.isEmpty && captured.isEmpty with|true=>C (.yield A) (zjD xs e) h k|false=>false)
 |_=>false
noncomputable def ziM (t:TypeId) (r:Option Operand):Arm:=fun e h k=>match r with
 |none=>k (.map (some h.size)) (h.push (.map [] 0))
 |some x=>match T.desc t,fval x e with
  |some (.map _ _),.int _ _=>k (.map (some h.size)) (h.push (.map [] 0))
  |_,_=>false
noncomputable def zve (t:TypeId) (x i:Operand) (ok:Bool):Arm:=fun e h k=>zcN (zdv T t (fval x e) (fval i e) ok h) h k
noncomputable def zpB (t:TypeId) (m i x:Operand):Arm:=fun e h k=>fMem (zbC T t (fval m e) (fval i e) (fval x e) h) k
noncomputable def zrk (t:TypeId) (m i:Operand):Arm:=fun e h k=>zhN (zfO T t (fval m e) (fval i e) h) k
noncomputable def zmu (_:TypeId) (m s x:Operand):Arm:=fun e h k=>fMem (zbb (fval m e) (fval s e) (fval x e) h) k
noncomputable def zCQ (o:Oper) (c:Call):Arm:=match c.callee with
 | .value f=>zoq C f c.args.toList
 | .builtin b=>znh P T b o c.argTypes.toList c.args.toList
 | .invoke r name=>zls T C r name c.args.toList

noncomputable def fOp (o:Oper):Arm :=
 Op.casesOn (motive:=fun _=>Arm) o.op zzM zzM zCM (znZ T) zE4 (zBf T) (zms T) (zpB T) (zCD T) (zBH T) zqR zqR zgW (zBD P T)
  (fun _ _ _=>zia P o) (zix P T o) zqy (zA2 T) zqU (ziM T) zqy (znM T) (zAr T) (zos T) (zBu T) (zo5 T) (fun _ _ _=>zia P o)
  (zve T) (zpB T) (zrk T) zmu zqy zqy zqR (zwU T) zis (zCQ P T C o) zqR zqR zqR zqy zDX zqy

/-! ### Regions -/
noncomputable def zwD (ops:List Oper) (g:Option (Nat × Bool)) (e:FE) (a b:Bool):Bool:=match g with
 |none=>a
 |some (j,c)=>match (ops[j]?).bind (·.dst) with
  |some t=>(match ET.get (zcF t) e.t with
   | .bool d=>(match d,c with|true,true=>a|false,false=>a|_,_=>b)
   |_=>b)
  |none=>b
def fLow (h:Heap) (k:Heap→Bool):Bool:=match h.low with
 |0=>k ⟨h.size,h.tr,0⟩
 |n+1=>k ⟨h.size,h.tr,n+1⟩
noncomputable def fOne (ops:List Oper) (o:Oper) (next:FE→Heap→(FE→Heap→Bool)→Bool) (e:FE) (h:Heap) (k:FE→Heap→Bool):Bool :=
 zwD ops o.guard e (fOp P T C o e h fun v h1=>fLow h1 fun h'=>fPut o.dst v e fun e'=>next e' h' k) (fPut o.dst undef e fun e'=>next e' h k)
noncomputable def fOps (ops:List Oper) (l:List Oper):FE→Heap→(FE→Heap→Bool)→Bool :=
 List.rec (motive:=fun _=>FE→Heap→(FE→Heap→Bool)→Bool) (fun e h k=>k e h) (fun o _ ih=>fOne P T C ops o ih) l

def zdk (ops:Array Oper) (ms:List Nat):Bool :=
 (List.range ops.size).all fun j=>match ops[j]? with
  |some oj=>oj.after.toList.all (fun e => !Region.binds .any e || decide (e.on < j)) &&
   (List.range j).all fun i=>(ms.getD j 0).testBit i || (match ops[i]? with
    |some oi=>oi.apart ops oj
    |none=>true)
  |none=>true
def zb4 (ops:Array Oper) (i:Nat):Bool:=match ops[i]? with
 |some o=>zbt T o
 |none=>true
def zAR (ops:Array Oper) (ms:List Nat):List (Nat × Nat) :=
 (List.range ops.size).flatMap fun j=>(List.range j).filterMap fun i=>if (ms.getD j 0).testBit i || zb4 T ops i || zb4 T ops j then none else some (i,j)
def zin (ks:List Nat):List (Nat × Nat)→Bool
 | []=>true
 |(i,j)::r=>kOk (ks.getD i 2) (ks.getD j 2) && zin ks r
def zpX (ops:Array Oper):Option (List (Nat × Nat)):=if zdk ops (zds ops.toList []) then some (zAR T ops (zds ops.toList [])) else none
noncomputable def zAG (o:Oper) (e:FE) (n low:Nat):Nat:=match Nat.ble n low with
 |true=>(match o.op with
  | .load _ a=>(match fval a e with
   | .pointer (some x)=>3+3*x.block
   |_=>1)
  | .buildSlice _ _ _=>4+3*n
  |_=>1)
 |false=>(match o.op with
  | .store _ a _=>(match fval a e with
   | .pointer (some x)=>5+3*x.block
   |_=>2)
  |_=>2)
noncomputable def zCm (ops:List Oper) (o:Oper) (next:List Nat→FE→Heap→(List Nat→FE→Heap→Bool)→Bool) (ks:List Nat) (e:FE) (h:Heap) (k:List Nat→FE→Heap→Bool):Bool :=
 zwD ops o.guard e (fOp P T C o e { h with low:=h.size } fun v h'=>fPut o.dst v e fun e'=>match zbt T o with
     |true=>fLow { h' with low:=min h.low h'.low } fun h2=>next (0::ks) e' h2 k
     |false=>fLow { h' with low:=min h.low h'.low } fun h2=>next (zAG o e h.size h'.low::ks) e' h2 k)
  (fPut o.dst undef e fun e'=>next (0::ks) e' h k)
noncomputable def zz7 (ops:List Oper) (l:List Oper):List Nat→FE→Heap→(List Nat→FE→Heap→Bool)→Bool :=
 List.rec (motive:=fun _=>List Nat→FE→Heap→(List Nat→FE→Heap→Bool)→Bool) (fun ks e h k=>k ks e h) (fun o _ ih=>zCm P T C ops o ih) l
noncomputable def zz1 (ops:Array Oper) (e:FE) (h:Heap) (k:FE→Heap→Bool):Bool :=
 match zpX T ops with
 |some ps=>zz7 P T C ops.toList ops.toList [] e h fun ks e' h'=>match zin ks.reverse ps with
  |true=>k e' h'
  |false=>false
 |none=>false

/-! ### Code -/
abbrev FQ:=Ex→FE→Heap→Bool
abbrev FC:=FE→Heap→FQ→Bool
noncomputable def zDv (b:FC) (q:FQ):FQ:=fun x=>Ex.rec (motive:=fun _=>FE→Heap→Bool) (fun e h=>b e h q) (fun i=>q (.exit i)) (q .ret) x
noncomputable def zCv (id:Nat) (q:FQ):FQ:=fun x=>Ex.rec (motive:=fun _=>FE→Heap→Bool) (q .normal) (fun i e h=>match Nat.beq i id with|true=>q .normal e h|false=>q (.exit i) e h) (q .ret) x
noncomputable def zCp (next:FC) (q:FQ):FQ:=fun x=>Ex.rec (motive:=fun _=>FE→Heap→Bool) (fun e h=>next e h q) (fun i=>q (.exit i)) (q .ret) x
noncomputable def zBp (c:FC) (n:Nat):FC:=Nat.rec (motive:=fun _=>FC) (fun _ _ _=>false) (fun _ ih e h q=>c e h (zCp ih q)) n
def zC2:FC:=fun e h q=>q .normal e h
noncomputable def zyC (_:Nat) (ops:Array Oper) (d:Bool):FC:=fun e h q=>match d with
 |false=>fOps P T C ops.toList ops.toList e h (q .normal)
 |true=>zz1 P T C ops e h (q .normal)
noncomputable def zEw (_ _:Code) (a b:FC):FC:=fun e h q=>a e h (zDv b q)
noncomputable def zCA (c:Operand) (_ _:Code) (a b:FC):FC:=fun e h q=>zoA (fval c e) (a e h q) (b e h q)
noncomputable def zAa (id:Nat) (_:Code) (c:FC):FC:=fun e h q=>c e h (zCv id q)
noncomputable def zC5 (fuel:Nat) (_:Code) (c:FC):FC:=zBp c fuel
def zCg (id:Nat):FC:=fun e h q=>q (.exit id) e h
def zGA:FC:=fun e h q=>q .ret e h
def zA3 (_:Nat):FC:=fun e h q=>q .normal e h
noncomputable def fEnv (e:FE):List Value:=(List.range e.n).map fun i=>ET.get (zcF i) e.t
def ztv (l:Nat) (e:FE) (h:Heap) (q:FQ):Bool :=
 match h.get l with
 |some (.loop env ps assign body st pend)=>(match st with
  | .busy=>false
  |_=>(match pend with
   |none=>q .normal e (h.set l (.loop env ps assign body .exhausted pend))
   |some (.exit id)=>q (.exit id) e (h.set l (.loop env ps assign body .exhausted pend))
   |some .ret=>q .ret e (h.set l (.loop env ps assign body .exhausted pend))
   |_=>false))
 |_=>false
noncomputable def zoJ (rd:Option Nat) (g:Operand) (ps:Array Tmp) (assign body:Code) (_ _:FC):FC:=fun e h q=>match fval g e with
 | .func (.func f) first captured=>(match zhU rd h && zkS T f with
  |true=>C (.func f) (first.toList++[.func (.yield h.size) #[] #[]]++captured.toList) (h.push (.loop (fEnv e) ps.toList assign body .ready none)) fun _ h2=>ztv h.size e h2 q
  |false=>false)
 |_=>false
noncomputable def zA8 (_:Code) (c:FC):FC:=c
noncomputable def zf1 (rd:Option Nat) (fuel:Nat) (c:Code):FC :=
 Code.rec (motive:=fun _=>FC) zC2 (zyC P T C) zEw zCA zAa (zC5 fuel) (zoJ T C rd) zCg zA8 zA3 (fun _ _ _ _=>false) zGA (fun _ _ _ _=>false) c

noncomputable def fRes (r:ResultVar) (e:FE) (h:Heap):Option Value:=match r with
 | .tmp t=>some (ET.get (zcF t) e.t)
 | .cell a y=>zaR T y (ET.get (zcF a) e.t) h
noncomputable def fFin (fn:Func) (k:FK):FQ:=fun x e h=>match x with
 | .exit _=>false
 |_=>match fn.results.toList with
  | [r]=>zcN (fRes T r e h) h k
  |rs=>(match rs.mapM fun r=>fRes T r e h with
   |some vs=>k (.tuple vs.toArray) h
   |none=>false)
end
noncomputable def zlG (l:List Value) (i:Nat) (t:ET) (k:ET→Bool):Bool :=
 List.rec (motive:=fun _=>Nat→ET→Bool) (fun _ t=>k t) (fun v _ ih i t=>ET.setK (zcF i) v t (ih (i+1))) l i t
def zeW (A:Nat) (jump:Option Code) (h:Heap) (k:FK):Bool :=
 match h.get A with
 |some (.loop env ps assign body _ _)=>k (.bool jump.isNone) (h.set A (.loop env ps assign body (if jump.isNone then .ready else .done) jump))
 |_=>false
noncomputable def zlL (A:Nat) (k:FK):FQ:=fun x=>Ex.rec (motive:=fun _=>FE→Heap→Bool) (fun _ h=>zeW A none h k) (fun id _ h=>zeW A (some (.exit id)) h k) (fun _ h=>zeW A (some .ret) h k) x
noncomputable def zt8 (F:Code→FC) (A:Nat) (body:Code) (k:FK):FQ:=fun x=>Ex.rec (motive:=fun _=>FE→Heap→Bool)
 (fun e h=>match h.get A with
  |some (.loop env ps assign body1 .ready pend)=>F body e (h.set A (.loop env ps assign body1 .busy pend)) (zlL A k)
  |_=>false) (fun _ _ _=>false) (fun _ _=>false) x
noncomputable def zsA (F:Code→FC) (A:Nat) (args:List Value) (h:Heap) (k:FK):Bool :=
 match h.get A with
 |some (.loop env ps assign body _ _)=>(match Nat.beq args.length ps.length with
  |true=>zlG (setAll env ps args) 0 .leaf fun t=>F assign ⟨env.length,t⟩ h (zt8 F A body k)
  |false=>false)
 |_=>false
/-! ### A function that defers one call -/
noncomputable def fPre (F:Code→FC):List Code→FE→Heap→(FE→Heap→Bool)→Bool
 | [],e,h,k=>k e h
 |c::cs,e,h,k=>F c e h fun x e' h'=>match x with
  | .normal=>fPre F cs e' h' k
  |_=>false
noncomputable def zsq (T:Tab) (F:Code→FC) (fn:Func) (g:Value) (e3:FE) (h3:Heap) (k:FK):Bool:=match g with
 | .func (.func g) fi ca=>(match T.fn g with
  |some fg=>(match fg.body with
   |some cg=>(match za2 cg && Nat.ble (fi.toList++ca.toList).length fg.ntmps with
    |true=>zlG (fi.toList++ca.toList) 0 .leaf fun t=>F cg ⟨fg.ntmps,t⟩ h3 (fFin T fg fun _ h4=>fFin T fn k .ret e3 h4)
    |false=>false)
   |none=>false)
  |none=>false)
 |_=>false
noncomputable def ztq (P:Program) (T:Tab) (C:Fn→List Value→Heap→FK→Bool) (F:Code→FC) (fn:Func) (c:Code) (e:FE) (h:Heap) (k:FK):Bool:=match zfi c with
 |some (pre,m,t,rest)=>(match pre.all za2 && za2 rest with
  |true=>fPre F pre e h fun e1 h1=>fOp P T C m e1 h1 fun v h2=>fPut m.dst v e1 fun e2=>F rest e2 h2 fun x e3 h3=>match x with
   | .exit _=>false
   |_=>zsq T F fn (ET.get (zcF t) e2.t) e3 h3 k
  |false=>false)
 |none=>false
noncomputable def zA6 (P:Program) (T:Tab) (ov:Ov) (C:Fn→List Value→Heap→FK→Bool) (F:Code→FC) (f:FuncId) (args:List Value) (h:Heap) (k:FK):Bool :=
 match ov f with
 |some g=>zhN (g args h) k
 |none=>match T.fn f with
  |some fn=>match fn.body with
   |some c=>match Nat.ble args.length fn.ntmps with
    |true=>zlG args 0 .leaf fun t=>(match T.dfr f with
     |true=>ztq P T C F fn c ⟨fn.ntmps,t⟩ h k
     |false=>F c ⟨fn.ntmps,t⟩ h (fFin T fn k))
    |false=>false
   |none=>false
  |none=>false
noncomputable def zoM (P:Program) (T:Tab) (ov:Ov) (fuel:Nat) (n:Nat):Fn→List Value→Heap→FK→Bool :=
 Nat.rec (motive:=fun _=>Fn→List Value→Heap→FK→Bool) (fun _ _ _ _=>false) (fun _ ih f args h k=>match f with
  | .func f=>zA6 P T ov ih (zf1 P T ih none fuel) f args h k
  | .yield A=>zsA (zf1 P T ih (some A) fuel) A args h k
  |_=>false) n
end Go.Am
