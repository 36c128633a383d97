/- The plain machine, told so that the kernel runs it fast: every step hands what it has on, and says yes or no. Definitions alone; no condition. -/
import Derived.Test.YtdplfgoifjjniaaGreatDoorG2
namespace Go.Am

/-! ### The places of a frame -/
inductive Pth where
 |here
 |l (p:Pth)
 |r (p:Pth)
def zl1:Nat→Nat→Pth
 |0,_=>.here
 |n+1,i=>match i with
  |0=>.here
  |i+1=>match i % 2 with
   |0=>.l (zl1 n (i / 2))
   |_+1=>.r (zl1 n (i / 2))
def zcv (i:Nat):Pth:=zl1 (i+1) i
inductive ET where
 |leaf
 |node (v:Value) (l r:ET)
noncomputable def ET.get (p:Pth):ET→Value :=
 Pth.rec (motive:=fun _=>ET→Value) (fun t=>ET.casesOn t undef fun v _ _=>v) (fun _ ih t=>ET.casesOn t undef fun _ l _=>ih l) (fun _ ih t=>ET.casesOn t undef fun _ _ r=>ih r) p
noncomputable def ET.set (p:Pth) (v:Value):ET→ET :=
 Pth.rec (motive:=fun _=>ET→ET) (fun t=>ET.casesOn t (.node v .leaf .leaf) fun _ l r=>.node v l r) (fun _ ih t=>ET.casesOn t (.node undef (ih .leaf) .leaf) fun x l r=>.node x (ih l) r)
  (fun _ ih t=>ET.casesOn t (.node undef .leaf (ih .leaf)) fun x l r=>.node x l (ih r)) p
noncomputable def ET.setK (p:Pth) (v:Value):ET→(ET→Bool)→Bool :=
 Pth.rec (motive:=fun _=>ET→(ET→Bool)→Bool) (fun t k=>ET.casesOn t (k (.node v .leaf .leaf)) fun _ l r=>k (.node v l r)) (fun _ ih t k=>ET.casesOn t (ih .leaf fun l=>k (.node undef l .leaf)) fun x l r=>ih l fun l=>k (.node x l r))
  (fun _ ih t k=>ET.casesOn t (ih .leaf fun r=>k (.node undef .leaf r)) fun x l r=>ih r fun r=>k (.node x l r)) p

structure FE where
 n:Nat
 t:ET

abbrev FK:=Value→Heap→Bool
abbrev Arm:=FE→Heap→FK→Bool

noncomputable def fval (o:Operand):FE→Value :=
 Operand.rec (motive:=fun _=>FE→Value) (fun t e=>ET.get (zcv t) e.t) (fun v _=>v) (fun g _=>.pointer (some ⟨g,0,none⟩)) (fun f _=>.func (.func f) #[] #[]) o
noncomputable def fPut (d:Option Tmp) (v:Value) (e:FE) (k:FE→Bool):Bool:=match d with
 |none=>k e
 |some i=>match Nat.blt i e.n with
  |true=>ET.setK (zcv i) v e.t fun t=>k ⟨e.n,t⟩
  |false=>k e

/-! ### The operations -/
def zcM (r:Option Value) (h:Heap) (k:FK):Bool:=match r with
 |some v=>k v h
 |none=>false
def fMem (r:Option Heap) (k:FK):Bool:=match r with
 |some h=>k undef h
 |none=>false
def zhz (r:Option (Value × Heap)) (k:FK):Bool:=match r with
 |some (v,h)=>k v h
 |none=>false
def zov (v:Value) (a b:Bool):Bool:=match v with
 | .bool t=>(match t with|true=>a|false=>b)
 |_=>false

noncomputable def zxH (x:Operand):Arm:=fun e h k=>k (fval x e) h
noncomputable def zCx (c a b:Operand):Arm:=fun e h k=>zov (fval c e) (k (fval a e) h) (k (fval b e) h)
noncomputable def zFS (t:TypeId) (x:Operand):Arm:=fun e h k=>k (.pointer (some ⟨h.size,0,none⟩)) (h.push (.row (fval x e).cells.toList t false))
def zFJ:Arm:=fun _ _ _=>false
def zqC {α:Type}:α→Arm:=fun _ _ _ _=>false
def zqO {α β:Type}:α→β→Arm:=fun _ _ _ _ _=>false
def zGq {α β γ:Type}:α→β→γ→Arm:=fun _ _ _ _ _ _=>false
noncomputable def zkf (l:List (Nat × Operand)) (e:FE):List (Nat × Value):=List.rec (motive:=fun _=>List (Nat × Value)) [] (fun p _ ih=>(p.1,fval p.2 e)::ih) l
noncomputable def zjw (l:List Operand) (e:FE):List Value:=List.rec (motive:=fun _=>List Value) [] (fun x _ ih=>fval x e::ih) l
noncomputable def zoz (o:Option Operand) (e:FE):Option Value:=match o with
 |some x=>some (fval x e)
 |none=>none
noncomputable def zgR (x:Operand):Arm:=fun e h k=>match fval x e with
 | .pointer (some a)=>k (.pointer (some a)) h
 | .func (.func f) a b=>k (.func (.func f) a b) h
 | .iface t a=>k (.iface t a) h
 |_=>false
noncomputable def zqV (fn:Fn) (first captured:Array Operand):Arm:=fun e h k=>match fn with
 | .func f=>k (.func (.func f) ⟨zjw first.toList e⟩ ⟨zjw captured.toList e⟩) h
 |_=>false
noncomputable def zhW (t:Operand) (i:Nat):Arm:=fun e h k=>match fval t e with
 | .tuple vs=>zcM (vs.toList[i]?) h k
 |_=>false

section
variable (P:Program) (T:Tab)
noncomputable def zoX (t:TypeId):Arm:=fun _ h k=>match T.info t with
 |some (_,_,z)=>k (.pointer (some ⟨h.size,0,none⟩)) (h.push (.row z t false))
 |none=>false
noncomputable def zBG (t:TypeId) (ps:Array (Nat × Operand)):Arm:=fun e h k=>zcM (zdA T t (zkf ps.toList e)) h k
noncomputable def zmp (t:TypeId) (n:Nat) (ps:Array (Nat × Operand)):Arm:=fun e h k=>zhz (zaJ T t n (zkf ps.toList e) h) k
noncomputable def zBS (t:TypeId) (a:Operand):Arm:=fun e h k=>zcM (zaQ T t (fval a e) h) h k
noncomputable def zAd (t:TypeId) (a x:Operand):Arm:=fun e h k=>fMem (za7 T t (fval a e) (fval x e) h) k
noncomputable def zBy (op:BinOp) (t:TypeId) (x y:Operand) (_:TypeId):Arm:=fun e h k=>zcM (binA P T op t (fval x e) (fval y e)) h k
noncomputable def zox (t:TypeId) (l c:Operand):Arm:=fun e h k=>zhz (zcS T t (fval l e) (fval c e) h) k
noncomputable def zBn (t:TypeId) (x:Operand) (l hi m:Option Operand):Arm:=fun e h k=>zcM (zbn T t (fval x e) (zoz l e) (zoz hi e) (zoz m e)) h k
noncomputable def znR (s:TypeId) (x:Operand) (f:Nat):Arm:=fun e h k=>zcM (zaf T s (fval x e) f) h k
noncomputable def zy5 (s:TypeId) (x:Operand) (f:Nat):Arm:=fun e h k=>zcM (zhb T s (fval x e) f) h k
noncomputable def znU (t:TypeId) (x i:Operand):Arm:=fun e h k=>zcM (zas T t (fval x e) (fval i e)) h k

noncomputable def ziB (o:Oper):Arm:=fun e h k =>
 match (zjw o.op.operands.toList e).all plain with
 |true=>match zaO P (execOp (fun x=>fval x e) o) with
  |some (.value v)=>(match plain v with|true=>k v h|false=>false)
  |_=>false
 |false=>false

variable (C:Fn→List Value→Heap→FK→Bool)
noncomputable def zkJ (ts:List TypeId) (xs:List Operand):Arm:=fun e h k=>match ts,xs with
 | [t,u],[s,x]=>(match zdJ T t u with|true=>zhz (zaL T t (fval s e) (fval x e) h) k|false=>false)
 |_,_=>false
noncomputable def zrT (ts:List TypeId) (xs:List Operand):Arm:=fun e h k=>match ts,xs with
 | [t,_],[d,s]=>zhz (znu T t (fval d e) (fval s e) h) k
 |_,_=>false
noncomputable def zns (ts:List TypeId) (xs:List Operand):Arm:=fun e h k=>match ts,xs with
 | [t],[x]=>fMem (zcE T t (fval x e) h) k
 |_,_=>false
noncomputable def zAp (ts:List TypeId) (xs:List Operand):Arm:=fun e h k=>match ts,xs with
 |t::_,[x]=>zcM (lenA T t (fval x e) h) h k
 |_,_=>false
noncomputable def zlg (ts:List TypeId) (xs:List Operand):Arm:=fun e h k=>match ts,xs with
 |t::_,[m,i]=>fMem (zc5 T t (fval m e) (fval i e) h) k
 |_,_=>false
noncomputable def zze (ts:List TypeId) (xs:List Operand):Arm:=fun e h k=>match ts,xs with
 |t::_,[x]=>zcM (capA T t (fval x e)) h k
 |_,_=>false
noncomputable def zii (o:Oper) (s d:TypeId) (x:Operand):Arm:=fun e h k=>match zbR T s with
 |true=>zcM (zfn T s d (fval x e) h) h k
 |false=>match zbR T d with
  |true=>(match zfh T s with|true=>zhz (zdP T d (fval x e) h) k|false=>false)
  |false=>ziB P o e h k
noncomputable def zAR (t:TypeId) (x:Operand):Arm:=fun e h k=>zcM (zho T t (fval x e)) h k
noncomputable def zwg (x:Operand) (_ t:TypeId) (ok:Bool):Arm:=fun e h k=>zcM (zfW T (fval x e) t ok) h k
noncomputable def zk2 (r:Operand) (name:String) (xs:List Operand):Arm:=fun e h k=>match fval r e with
 | .iface t x=>(match zcr T t x name h with
  |some (f,y)=>C (.func f) (y::zjw xs e) h k
  |none=>false)
 |_=>false
noncomputable def znl (b:Builtin) (o:Oper) (ts:List TypeId) (xs:List Operand):Arm :=
 match b with
 | .append=>zkJ T ts xs
 | .copy=>zrT T ts xs
 | .clear=>zns T ts xs
 | .len=>zAp T ts xs
 | .min=>ziB P o
 | .max=>ziB P o
 | .delete=>zlg T ts xs
 | .cap=>zze T ts xs
 |_=>zFJ
def catL (l:List Value):List Value→List Value
 | []=>l
 |x::m=>l++(x::m)
noncomputable def zoC (f:Operand) (xs:List Operand):Arm:=fun e h k=>match fval f e with
 | .func (.func g) first captured=>C (.func g) (first.toList++catL (zjw xs e) captured.toList) h k
 | .func (.yield A) first captured=>(match first.isEmpty && captured.isEmpty with|true=>C (.yield A) (zjw xs e) h k|false=>false)
 |_=>false
noncomputable def zi2 (t:TypeId) (r:Option Operand):Arm:=fun e h k=>match r with
 |none=>k (.map (some h.size)) (h.push (.map [] 0))
 |some x=>match T.desc t,fval x e with
  |some (.map _ _),.int _ _=>k (.map (some h.size)) (h.push (.map [] 0))
  |_,_=>false
noncomputable def zw1 (t:TypeId) (x i:Operand) (ok:Bool):Arm:=fun e h k=>zcM (zdC T t (fval x e) (fval i e) ok h) h k
noncomputable def zpq (t:TypeId) (m i x:Operand):Arm:=fun e h k=>fMem (zbE T t (fval m e) (fval i e) (fval x e) h) k
noncomputable def zqM (t:TypeId) (m i:Operand):Arm:=fun e h k=>zhz (zfB T t (fval m e) (fval i e) h) k
noncomputable def zl0 (_:TypeId) (m s x:Operand):Arm:=fun e h k=>fMem (zbb (fval m e) (fval s e) (fval x e) h) k
noncomputable def zB9 (o:Oper) (c:Call):Arm:=match c.callee with
 | .value f=>zoC C f c.args.toList
 | .builtin b=>znl P T b o c.argTypes.toList c.args.toList
 | .invoke r name=>zk2 T C r name c.args.toList

noncomputable def fOp (o:Oper):Arm :=
 Op.casesOn (motive:=fun _=>Arm) o.op zxH zxH zCx (zoX T) zFS (zBG T) (zmp T) (zpq T) (zBS T) (zAd T) zqC zqC zgR (zBy P T)
  (fun _ _ _=>ziB P o) (zii P T o) zqO (zAR T) zqV (zi2 T) zqO (zox T) (zBn T) (znR T) (zy5 T) (znU T) (fun _ _ _=>ziB P o)
  (zw1 T) (zpq T) (zqM T) zl0 zqO zqO zqC (zwg T) zhW (zB9 P T C o) zqC zqC zqC zqO zGq zqO

/-! ### Regions -/
noncomputable def zwb (ops:List Oper) (g:Option (Nat × Bool)) (e:FE) (a b:Bool):Bool:=match g with
 |none=>a
 |some (j,c)=>match (ops[j]?).bind (·.dst) with
  |some t=>(match ET.get (zcv t) e.t with
   | .bool d=>(match d,c with|true,true=>a|false,false=>a|_,_=>b)
   |_=>b)
  |none=>b
def fLow (h:Heap) (k:Heap→Bool):Bool:=match h.low with
 |0=>k ⟨h.size,h.tr,0⟩
 |n+1=>k ⟨h.size,h.tr,n+1⟩
noncomputable def fOne (ops:List Oper) (o:Oper) (next:FE→Heap→(FE→Heap→Bool)→Bool) (e:FE) (h:Heap) (k:FE→Heap→Bool):Bool :=
 zwb ops o.guard e (fOp P T C o e h fun v h1=>fLow h1 fun h'=>fPut o.dst v e fun e'=>next e' h' k) (fPut o.dst undef e fun e'=>next e' h k)
noncomputable def fOps (ops:List Oper) (l:List Oper):FE→Heap→(FE→Heap→Bool)→Bool :=
 List.rec (motive:=fun _=>FE→Heap→(FE→Heap→Bool)→Bool) (fun e h k=>k e h) (fun o _ ih=>fOne P T C ops o ih) l

def zdb (ops:Array Oper) (ms:List Nat):Bool :=
 (List.range ops.size).all fun j=>match ops[j]? with
  |some oj=>oj.after.toList.all (fun e => !Region.binds .any e || decide (e.on < j)) &&
   (List.range j).all fun i=>(ms.getD j 0).testBit i || (match ops[i]? with
    |some oi=>oi.apart ops oj
    |none=>true)
  |none=>true
def zbX (ops:Array Oper) (i:Nat):Bool:=match ops[i]? with
 |some o=>zby T o
 |none=>true
def zAy (ops:Array Oper) (ms:List Nat):List (Nat × Nat) :=
 (List.range ops.size).flatMap fun j=>(List.range j).filterMap fun i=>if (ms.getD j 0).testBit i || zbX T ops i || zbX T ops j then none else some (i,j)
def zh1 (ks:List Nat):List (Nat × Nat)→Bool
 | []=>true
 |(i,j)::r=>kOk (ks.getD i 2) (ks.getD j 2) && zh1 ks r
def zpo (ops:Array Oper):Option (List (Nat × Nat)):=if zdb ops (zdz ops.toList []) then some (zAy T ops (zdz ops.toList [])) else none
noncomputable def zBA (o:Oper) (e:FE) (n low:Nat):Nat:=match Nat.ble n low with
 |true=>(match o.op with
  | .load _ a=>(match fval a e with
   | .pointer (some x)=>3+3*x.block
   |_=>1)
  | .buildSlice _ _ _=>4+3*n
  |_=>1)
 |false=>(match o.op with
  | .store _ a _=>(match fval a e with
   | .pointer (some x)=>5+3*x.block
   |_=>2)
  |_=>2)
noncomputable def zCt (ops:List Oper) (o:Oper) (next:List Nat→FE→Heap→(List Nat→FE→Heap→Bool)→Bool) (ks:List Nat) (e:FE) (h:Heap) (k:List Nat→FE→Heap→Bool):Bool :=
 zwb ops o.guard e (fOp P T C o e { h with low:=h.size } fun v h'=>fPut o.dst v e fun e'=>match zby T o with
     |true=>fLow { h' with low:=min h.low h'.low } fun h2=>next (0::ks) e' h2 k
     |false=>fLow { h' with low:=min h.low h'.low } fun h2=>next (zBA o e h.size h'.low::ks) e' h2 k)
  (fPut o.dst undef e fun e'=>next (0::ks) e' h k)
noncomputable def zzk (ops:List Oper) (l:List Oper):List Nat→FE→Heap→(List Nat→FE→Heap→Bool)→Bool :=
 List.rec (motive:=fun _=>List Nat→FE→Heap→(List Nat→FE→Heap→Bool)→Bool) (fun ks e h k=>k ks e h) (fun o _ ih=>zCt P T C ops o ih) l
noncomputable def zBE (ops:Array Oper) (e:FE) (h:Heap) (k:FE→Heap→Bool):Bool :=
 match zpo T ops with
 |some ps=>zzk P T C ops.toList ops.toList [] e h fun ks e' h'=>match zh1 ks.reverse ps with
  |true=>k e' h'
  |false=>false
 |none=>false

/-! ### Code -/
abbrev FQ:=Ex→FE→Heap→Bool
abbrev FC:=FE→Heap→FQ→Bool
noncomputable def zES (b:FC) (q:FQ):FQ:=fun x=>Ex.rec (motive:=fun _=>FE→Heap→Bool) (fun e h=>b e h q) (fun i=>q (.exit i)) (q .ret) x
noncomputable def zBU (id:Nat) (q:FQ):FQ:=fun x=>Ex.rec (motive:=fun _=>FE→Heap→Bool) (q .normal) (fun i e h=>match Nat.beq i id with|true=>q .normal e h|false=>q (.exit i) e h) (q .ret) x
noncomputable def zB0 (next:FC) (q:FQ):FQ:=fun x=>Ex.rec (motive:=fun _=>FE→Heap→Bool) (fun e h=>next e h q) (fun i=>q (.exit i)) (q .ret) x
noncomputable def zza (c:FC) (n:Nat):FC:=Nat.rec (motive:=fun _=>FC) (fun _ _ _=>false) (fun _ ih e h q=>c e h (zB0 ih q)) n
def zCM:FC:=fun e h q=>q .normal e h
noncomputable def zwm (_:Nat) (ops:Array Oper) (d:Bool):FC:=fun e h q=>match d with
 |false=>fOps P T C ops.toList ops.toList e h (q .normal)
 |true=>zBE P T C ops e h (q .normal)
noncomputable def zGB (_ _:Code) (a b:FC):FC:=fun e h q=>a e h (zES b q)
noncomputable def zCv (c:Operand) (_ _:Code) (a b:FC):FC:=fun e h q=>zov (fval c e) (a e h q) (b e h q)
noncomputable def zAq (id:Nat) (_:Code) (c:FC):FC:=fun e h q=>c e h (zBU id q)
noncomputable def zB7 (fuel:Nat) (_:Code) (c:FC):FC:=zza c fuel
def zCh (id:Nat):FC:=fun e h q=>q (.exit id) e h
def zEP:FC:=fun e h q=>q .ret e h
def zyU (_:Nat):FC:=fun e h q=>q .normal e h
noncomputable def fEnv (e:FE):List Value:=(List.range e.n).map fun i=>ET.get (zcv i) e.t
def zt4 (l:Nat) (e:FE) (h:Heap) (q:FQ):Bool :=
 match h.get l with
 |some (.loop env ps assign body st pend)=>(match st with
  | .busy=>false
  |_=>(match pend with
   |none=>q .normal e (h.set l (.loop env ps assign body .exhausted pend))
   |some (.exit id)=>q (.exit id) e (h.set l (.loop env ps assign body .exhausted pend))
   |some .ret=>q .ret e (h.set l (.loop env ps assign body .exhausted pend))
   |_=>false))
 |_=>false
noncomputable def znt (rd:Option Nat) (g:Operand) (ps:Array Tmp) (assign body:Code) (_ _:FC):FC:=fun e h q=>match fval g e with
 | .func (.func f) first captured=>(match zhK rd h && zli T f with
  |true=>C (.func f) (first.toList++[.func (.yield h.size) #[] #[]]++captured.toList) (h.push (.loop (fEnv e) ps.toList assign body .ready none)) fun _ h2=>zt4 h.size e h2 q
  |false=>false)
 |_=>false
noncomputable def zzb (_:Code) (c:FC):FC:=c
noncomputable def zfT (rd:Option Nat) (fuel:Nat) (c:Code):FC :=
 Code.rec (motive:=fun _=>FC) zCM (zwm P T C) zGB zCv zAq (zB7 fuel) (znt T C rd) zCh zzb zyU (fun _ _ _ _=>false) zEP (fun _ _ _ _=>false) c

noncomputable def fRes (r:ResultVar) (e:FE) (h:Heap):Option Value:=match r with
 | .tmp t=>some (ET.get (zcv t) e.t)
 | .cell a y=>zaQ T y (ET.get (zcv a) e.t) h
noncomputable def fFin (fn:Func) (k:FK):FQ:=fun x e h=>match x with
 | .exit _=>false
 |_=>match fn.results.toList with
  | [r]=>zcM (fRes T r e h) h k
  |rs=>(match rs.mapM fun r=>fRes T r e h with
   |some vs=>k (.tuple vs.toArray) h
   |none=>false)
end
noncomputable def zmi (l:List Value) (i:Nat) (t:ET) (k:ET→Bool):Bool :=
 List.rec (motive:=fun _=>Nat→ET→Bool) (fun _ t=>k t) (fun v _ ih i t=>ET.setK (zcv i) v t (ih (i+1))) l i t
def zeU (A:Nat) (jump:Option Code) (h:Heap) (k:FK):Bool :=
 match h.get A with
 |some (.loop env ps assign body _ _)=>k (.bool jump.isNone) (h.set A (.loop env ps assign body (if jump.isNone then .ready else .done) jump))
 |_=>false
noncomputable def zlA (A:Nat) (k:FK):FQ:=fun x=>Ex.rec (motive:=fun _=>FE→Heap→Bool) (fun _ h=>zeU A none h k) (fun id _ h=>zeU A (some (.exit id)) h k) (fun _ h=>zeU A (some .ret) h k) x
noncomputable def zuY (F:Code→FC) (A:Nat) (body:Code) (k:FK):FQ:=fun x=>Ex.rec (motive:=fun _=>FE→Heap→Bool)
 (fun e h=>match h.get A with
  |some (.loop env ps assign body1 .ready pend)=>F body e (h.set A (.loop env ps assign body1 .busy pend)) (zlA A k)
  |_=>false) (fun _ _ _=>false) (fun _ _=>false) x
noncomputable def zr6 (F:Code→FC) (A:Nat) (args:List Value) (h:Heap) (k:FK):Bool :=
 match h.get A with
 |some (.loop env ps assign body _ _)=>(match Nat.beq args.length ps.length with
  |true=>zmi (setAll env ps args) 0 .leaf fun t=>F assign ⟨env.length,t⟩ h (zuY F A body k)
  |false=>false)
 |_=>false
/-! ### A function that defers one call -/
noncomputable def fPre (F:Code→FC):List Code→FE→Heap→(FE→Heap→Bool)→Bool
 | [],e,h,k=>k e h
 |c::cs,e,h,k=>F c e h fun x e' h'=>match x with
  | .normal=>fPre F cs e' h' k
  |_=>false
noncomputable def ztJ (T:Tab) (F:Code→FC) (fn:Func) (g:Value) (e3:FE) (h3:Heap) (k:FK):Bool:=match g with
 | .func (.func g) fi ca=>(match T.fn g with
  |some fg=>(match fg.body with
   |some cg=>(match za3 cg && Nat.ble (fi.toList++ca.toList).length fg.ntmps with
    |true=>zmi (fi.toList++ca.toList) 0 .leaf fun t=>F cg ⟨fg.ntmps,t⟩ h3 (fFin T fg fun _ h4=>fFin T fn k .ret e3 h4)
    |false=>false)
   |none=>false)
  |none=>false)
 |_=>false
noncomputable def zuq (P:Program) (T:Tab) (C:Fn→List Value→Heap→FK→Bool) (F:Code→FC) (fn:Func) (c:Code) (e:FE) (h:Heap) (k:FK):Bool:=match zfb c with
 |some (pre,m,t,rest)=>(match pre.all za3 && za3 rest with
  |true=>fPre F pre e h fun e1 h1=>fOp P T C m e1 h1 fun v h2=>fPut m.dst v e1 fun e2=>F rest e2 h2 fun x e3 h3=>match x with
   | .exit _=>false
   |_=>ztJ T F fn (ET.get (zcv t) e2.t) e3 h3 k
  |false=>false)
 |none=>false
noncomputable def zzL (P:Program) (T:Tab) (ov:Ov) (C:Fn→List Value→Heap→FK→Bool) (F:Code→FC) (f:FuncId) (args:List Value) (h:Heap) (k:FK):Bool :=
 match ov f with
 |some g=>zhz (g args h) k
 |none=>match T.fn f with
  |some fn=>match fn.body with
   |some c=>match Nat.ble args.length fn.ntmps with
    |true=>zmi args 0 .leaf fun t=>(match T.dfr f with
     |true=>zuq P T C F fn c ⟨fn.ntmps,t⟩ h k
     |false=>F c ⟨fn.ntmps,t⟩ h (fFin T fn k))
    |false=>false
   |none=>false
  |none=>false
noncomputable def zoG (P:Program) (T:Tab) (ov:Ov) (fuel:Nat) (n:Nat):Fn→List Value→Heap→FK→Bool :=
 Nat.rec (motive:=fun _=>Fn→List Value→Heap→FK→Bool) (fun _ _ _ _=>false) (fun _ ih f args h k=>match f with
  | .func f=>zzL P T ov ih (zfT P T ih none fuel) f args h k
  | .yield A=>zr6 (zfT P T ih (some A) fuel) A args h k
  |_=>false) n
end Go.Am
