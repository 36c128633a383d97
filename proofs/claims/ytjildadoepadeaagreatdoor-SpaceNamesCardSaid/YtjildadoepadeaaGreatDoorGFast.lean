/- The plain machine, told so that the kernel runs it fast: every step hands what it has on, and says yes or no. Definitions alone; no condition. -/
import Derived.Test.YtjildadoepadeaaGreatDoorG3
noncomputable section
namespace Go.Am

inductive Pth where
 |here
 |l (p:Pth)
 |r (p:Pth)
def zfR:Nat->Nat->Pth
 |0,_=>.here
 |n+1,i=>match i with
  |0=>.here
  |i+1=>match i % 2 with
   |0=>.l (zfR n (i / 2))
   |_+1=>.r (zfR n (i / 2))
def zaR (i:Nat):Pth:=zfR (i+1) i
inductive ET where
 |leaf
 |node (v:Vly) (l r:ET)
def ET.get (p:Pth):ET->Vly :=
 Pth.rec (motive:=λ_=>ET->Vly) (λt=>ET.casesOn t undef λv _ _=>v) (λ_ ih t=>ET.casesOn t undef λ_ l _=>ih l) (λ_ ih t=>ET.casesOn t undef λ_ _ r=>ih r) p
def ET.set (p:Pth) (v:Vly):ET->ET :=
 Pth.rec (motive:=λ_=>ET->ET) (λt=>ET.casesOn t (.node v .leaf .leaf) λ_ l r=>.node v l r) (λ_ ih t=>ET.casesOn t (.node undef (ih .leaf) .leaf) λx l r=>.node x (ih l) r)
  (λ_ ih t=>ET.casesOn t (.node undef .leaf (ih .leaf)) λx l r=>.node x l (ih r)) p
def ET.setK (p:Pth) (v:Vly):ET->(ET->Bool)->Bool :=
 Pth.rec (motive:=λ_=>ET->(ET->Bool)->Bool) (λt k=>ET.casesOn t (k (.node v .leaf .leaf)) λ_ l r=>k (.node v l r)) (λ_ ih t k=>ET.casesOn t (ih .leaf λl=>k (.node undef l .leaf)) λx l r=>ih l λl=>k (.node x l r))
  (λ_ ih t k=>ET.casesOn t (ih .leaf λr=>k (.node undef .leaf r)) λx l r=>ih r λr=>k (.node x l r)) p

structure FE where
 n:Nat
 t:ET

abbrev FK:=Vly->Heap->Bool
abbrev Arm:=FE->Heap->FK->Bool

def fval (o:Operand):FE->Vly :=
 Operand.rec (motive:=λ_=>FE->Vly) (λt e=>ET.get (zaR t) e.t) (λv _=>v) (λg _=>.pointer (some ⟨g,0,none⟩)) (λf _=>.func (.func f) #[] #[]) o
def fPut (d:Option Tmp) (v:Vly) (e:FE) (k:FE->Bool):Bool:=match d with
 |none=>k e
 |some i=>match Nat.blt i e.n with
  |true=>ET.setK (zaR i) v e.t λt=>k ⟨e.n,t⟩
  |false=>k e

def zaO (r:Option Vly) (h:Heap) (k:FK):Bool:=match r with
 |some v=>k v h
 |none=>false
def fMem (r:Option Heap) (k:FK):Bool:=match r with
 |some h=>k undef h
 |none=>false
def zck (r:Option (Vly × Heap)) (k:FK):Bool:=match r with
 |some (v,h)=>k v h
 |none=>false
def zf9 (v:Vly) (a b:Bool):Bool:=match v with
 | .bool t=>(match t with|true=>a|false=>b)
 |_=>false

def zhJ (x:Operand):Arm:=λe h k=>k (fval x e) h
def ziw (c a b:Operand):Arm:=λe h k=>zf9 (fval c e) (k (fval a e) h) (k (fval b e) h)
def ziB (t:TypeId) (x:Operand):Arm:=λe h k=>k (.pointer (some ⟨h.size,0,none⟩)) (h.push (.row (fval x e).cells.toList t false))
def ziC:Arm:=λ_ _ _=>false
def zhj {α:Type}:α->Arm:=λ_ _ _ _=>false
def zhz {α β:Type}:α->β->Arm:=λ_ _ _ _ _=>false
def ziD {α β γ:Type}:α->β->γ->Arm:=λ_ _ _ _ _ _=>false
def zeI (l:List (Nat × Operand)) (e:FE):List (Nat × Vly):=List.rec (motive:=λ_=>List (Nat × Vly)) [] (λp _ ih=>(p.1,fval p.2 e)::ih) l
def zed (l:List Operand) (e:FE):List Vly:=List.rec (motive:=λ_=>List Vly) [] (λx _ ih=>fval x e::ih) l
def zgk (o:Option Operand) (e:FE):Option Vly:=match o with
 |some x=>some (fval x e)
 |none=>none
def zcV (x:Operand):Arm:=λe h k=>match fval x e with
 | .pointer (some a)=>k (.pointer (some a)) h
 | .func (.func f) a b=>k (.func (.func f) a b) h
 | .iface t a=>k (.iface t a) h
 |_=>false
def zgQ (fn:Fn) (first captured:Array Operand):Arm:=λe h k=>match fn with
 | .func f=>k (.func (.func f) ⟨zed first.toList e⟩ ⟨zed captured.toList e⟩) h
 |_=>false
def zdt (t:Operand) (i:Nat):Arm:=λe h k=>match fval t e with
 | .tuple vs=>zaO (vs.toList[i]?) h k
 |_=>false

section
variable (P:Program) (T:Tab)
def zgc (t:TypeId):Arm:=λ_ h k=>match T.info t with
 |some (_,_,z)=>k (.pointer (some ⟨h.size,0,none⟩)) (h.push (.row z t false))
 |none=>false
def zh5 (t:TypeId) (ps:Array (Nat × Operand)):Arm:=λe h k=>zaO (zfk T t (zeI ps.toList e)) h k
def zfC (t:TypeId) (n:Nat) (ps:Array (Nat × Operand)):Arm:=λe h k=>zck (zau T t n (zeI ps.toList e) h) k
def ziu (t:TypeId) (a:Operand):Arm:=λe h k=>zaO (zb1 T t (fval a e) h) h k
def zid (t:TypeId) (a x:Operand):Arm:=λe h k=>fMem (zeS T t (fval a e) (fval x e) h) k
def zh4 (op:BinOp) (t:TypeId) (x y:Operand) (_:TypeId):Arm:=λe h k=>zaO (binA P T op t (fval x e) (fval y e)) h k
def zgg (t:TypeId) (l c:Operand):Arm:=λe h k=>zck (zbj T t (fval l e) (fval c e) h) k
def zic (t:TypeId) (x:Operand) (l hi m:Option Operand):Arm:=λe h k=>zaO (zfV T t (fval x e) (zgk l e) (zgk hi e) (zgk m e)) h k
def zge (s:TypeId) (x:Operand) (f:Nat):Arm:=λe h k=>zaO (zat T s (fval x e) f) h k
def zh8 (s:TypeId) (x:Operand) (f:Nat):Arm:=λe h k=>zaO (zfF T s (fval x e) f) h k
def zgf (t:TypeId) (x i:Operand):Arm:=λe h k=>zaO (zbF T t (fval x e) (fval i e)) h k

def zdv (o:Oper):Arm:=λe h k =>
 match (zed o.op.operands.toList e).all plain with
 |true=>match zan P (execOp (λx=>fval x e) o) with
  |some (.value v)=>(match plain v with|true=>k v h|false=>false)
  |_=>false
 |false=>false

variable (C:Fn->List Vly->Heap->FK->Bool)
def zeY (ts:List TypeId) (xs:List Operand):Arm:=λe h k=>match ts,xs with
 | [t,u],[s,x]=>(match zgE T t u with|true=>zck (zbJ T t (fval s e) (fval x e) h) k|false=>false)
 |_,_=>false
def zhi (ts:List TypeId) (xs:List Operand):Arm:=λe h k=>match ts,xs with
 | [t,_],[d,s]=>zck (zgN T t (fval d e) (fval s e) h) k
 |_,_=>false
def zgd (ts:List TypeId) (xs:List Operand):Arm:=λe h k=>match ts,xs with
 | [t],[x]=>fMem (zeC T t (fval x e) h) k
 |_,_=>false
def zia (ts:List TypeId) (xs:List Operand):Arm:=λe h k=>match ts,xs with
 |t::_,[x]=>zaO (lenA T t (fval x e) h) h k
 |_,_=>false
def zeZ (ts:List TypeId) (xs:List Operand):Arm:=λe h k=>match ts,xs with
 |t::_,[m,i]=>fMem (zcs T t (fval m e) (fval i e) h) k
 |_,_=>false
def zh6 (ts:List TypeId) (xs:List Operand):Arm:=λe h k=>match ts,xs with
 |t::_,[x]=>zaO (capA T t (fval x e)) h k
 |_,_=>false
def zds (o:Oper) (s d:TypeId) (x:Operand):Arm:=λe h k=>match za6 T s with
 |true=>zaO (zcC T s d (fval x e) h) h k
 |false=>match za6 T d with
  |true=>(match zcH T s with|true=>zck (zbU T d (fval x e) h) k|false=>false)
  |false=>zdv P o e h k
def zh9 (t:TypeId) (x:Operand):Arm:=λe h k=>zaO (zfI T t (fval x e)) h k
def zhx (x:Operand) (_ t:TypeId) (ok:Bool):Arm:=λe h k=>zaO (zdk T (fval x e) t ok) h k
def ze0 (r:Operand) (name:String) (xs:List Operand):Arm:=λe h k=>match fval r e with
 | .iface t x=>(match zcZ T t x name h with
  |some (f,y)=>C (.func f) (y::zed xs e) h k
  |none=>false)
 |_=>false
def zfD (b:Builtin) (o:Oper) (ts:List TypeId) (xs:List Operand):Arm :=
 match b with
 | .append=>zeY T ts xs
 | .copy=>zhi T ts xs
 | .clear=>zgd T ts xs
 | .len=>zia T ts xs
 | .min=>zdv P o
 | .max=>zdv P o
 | .delete=>zeZ T ts xs
 | .cap=>zh6 T ts xs
 |_=>ziC
def catL (l:List Vly):List Vly->List Vly
 | []=>l
 |x::m=>l++(x::m)
def zgh (f:Operand) (xs:List Operand):Arm:=λe h k=>match fval f e with
 | .func (.func g) first captured=>C (.func g) (first.toList++catL (zed xs e) captured.toList) h k
 | .func (.yield A) first captured=>(match first.isEmpty && captured.isEmpty with|true=>C (.yield A) (zed xs e) h k|false=>false)
 |_=>false
def zdu (t:TypeId) (r:Option Operand):Arm:=λe h k=>match r with
 |none=>k (.map (some h.size)) (h.push (.map [] 0))
 |some x=>match T.desc t,fval x e with
  |some (.map _ _),.int _ _=>k (.map (some h.size)) (h.push (.map [] 0))
  |_,_=>false
def zhy (t:TypeId) (x i:Operand) (ok:Bool):Arm:=λe h k=>zaO (zdA T t (fval x e) (fval i e) ok h) h k
def zgA (t:TypeId) (m i x:Operand):Arm:=λe h k=>fMem (zbV T t (fval m e) (fval i e) (fval x e) h) k
def zgR (t:TypeId) (m i:Operand):Arm:=λe h k=>zck (zdo T t (fval m e) (fval i e) h) k
def zfE (_:TypeId) (m s x:Operand):Arm:=λe h k=>fMem (zaI (fval m e) (fval s e) (fval x e) h) k
def zib (t:TypeId) (x:Operand):Arm:=λe h k=>zck (zbs T t (fval x e) h) k
def ziv (x:Operand) (s:Bool):Arm:=λe h k=>match s with
 |true=>false
 |false=>zck (zbR (fval x e) h) k
def zh7 (x:Operand):Arm:=λe h k=>zaO (zb5 (fval x e) h) h k
def zit (o:Oper) (c:Call):Arm:=match c.callee with
 | .value f=>zgh C f c.args.toList
 | .builtin b=>zfD P T b o c.argTypes.toList c.args.toList
 | .invoke r name=>ze0 T C r name c.args.toList

def fOp (o:Oper):Arm :=
 Op.casesOn (motive:=λ_=>Arm) o.op zhJ zhJ ziw (zgc T) ziB (zh5 T) (zfC T) (zgA T) (ziu T) (zid T) zhj zhj zcV (zh4 P T)
  (λ_ _ _=>zdv P o) (zds P T o) zhz (zh9 T) zgQ (zdu T) zhz (zgg T) (zic T) (zge T) (zh8 T) (zgf T) (λ_ _ _=>zdv P o)
  (zhy T) (zgA T) (zgR T) zfE (zib T) ziv zh7 (zhx T) zdt (zit P T C o) zhj zhj zhj zhz ziD zhz

def zhw (ops:List Oper) (g:Option (Nat × Bool)) (e:FE) (a b:Bool):Bool:=match g with
 |none=>a
 |some (j,c)=>match (ops[j]?).bind (·.dst) with
  |some t=>(match ET.get (zaR t) e.t with
   | .bool d=>(match d,c with|true,true=>a|false,false=>a|_,_=>b)
   |_=>b)
  |none=>b
def fLow (h:Heap) (k:Heap->Bool):Bool:=match h.low with
 |0=>k ⟨h.size,h.tr,0⟩
 |n+1=>k ⟨h.size,h.tr,n+1⟩
def fOne (ops:List Oper) (o:Oper) (next:FE->Heap->(FE->Heap->Bool)->Bool) (e:FE) (h:Heap) (k:FE->Heap->Bool):Bool :=
 zhw ops o.guard e (fOp P T C o e h λv h1=>fLow h1 λh'=>fPut o.dst v e λe'=>next e' h' k) (fPut o.dst undef e λe'=>next e' h k)
def fOps (ops:List Oper) (l:List Oper):FE->Heap->(FE->Heap->Bool)->Bool :=
 List.rec (motive:=λ_=>FE->Heap->(FE->Heap->Bool)->Bool) (λe h k=>k e h) (λo _ ih=>fOne P T C ops o ih) l

def zeT (ops:Array Oper) (ms:List Nat):Bool :=
 (List.range ops.size).all λj=>match ops[j]? with
  |some oj=>oj.after.toList.all (λe => !Region.binds .any e || decide (e.on < j)) &&
   (List.range j).all λi=>(ms.getD j 0).testBit i || (match ops[i]? with
    |some oi=>oi.apart ops oj
    |none=>true)
  |none=>true
def zaW (ops:Array Oper) (i:Nat):Bool:=match ops[i]? with
 |some o=>zaC T o
 |none=>true
def zig (ops:Array Oper) (ms:List Nat):List (Nat × Nat) :=
 (List.range ops.size).flatMap λj=>(List.range j).filterMap λi=>if (ms.getD j 0).testBit i || zaW T ops i || zaW T ops j then none else some (i,j)
def zdB (ks:List Nat):List (Nat × Nat)->Bool
 | []=>true
 |(i,j)::r=>kOk (ks.getD i 2) (ks.getD j 2) && zdB ks r
def zgz (ops:Array Oper):Option (List (Nat × Nat)):=if zeT ops (zcl ops.toList []) then some (zig T ops (zcl ops.toList [])) else none
def zh1 (o:Oper) (e:FE) (n low:Nat):Nat:=match Nat.ble n low with
 |true=>(match o.op with
  | .load _ a=>(match fval a e with
   | .pointer (some x)=>3+3*x.block
   |_=>1)
  | .buildSlice _ _ _=>4+3*n
  |_=>1)
 |false=>(match o.op with
  | .store _ a _=>(match fval a e with
   | .pointer (some x)=>5+3*x.block
   |_=>2)
  |_=>2)
def zir (ops:List Oper) (o:Oper) (next:List Nat->FE->Heap->(List Nat->FE->Heap->Bool)->Bool) (ks:List Nat) (e:FE) (h:Heap) (k:List Nat->FE->Heap->Bool):Bool :=
 zhw ops o.guard e (fOp P T C o e { h with low:=h.size } λv h'=>fPut o.dst v e λe'=>match zaC T o with
     |true=>fLow { h' with low:=min h.low h'.low } λh2=>next (0::ks) e' h2 k
     |false=>fLow { h' with low:=min h.low h'.low } λh2=>next (zh1 o e h.size h'.low::ks) e' h2 k)
  (fPut o.dst undef e λe'=>next (0::ks) e' h k)
def zh3 (ops:List Oper) (l:List Oper):List Nat->FE->Heap->(List Nat->FE->Heap->Bool)->Bool :=
 List.rec (motive:=λ_=>List Nat->FE->Heap->(List Nat->FE->Heap->Bool)->Bool) (λks e h k=>k ks e h) (λo _ ih=>zir P T C ops o ih) l
def zhY (ops:Array Oper) (e:FE) (h:Heap) (k:FE->Heap->Bool):Bool :=
 match zgz T ops with
 |some ps=>zh3 P T C ops.toList ops.toList [] e h λks e' h'=>match zdB ks.reverse ps with
  |true=>k e' h'
  |false=>false
 |none=>false

abbrev FQ:=Ex->FE->Heap->Bool
abbrev FC:=FE->Heap->FQ->Bool
def ziA (b:FC) (q:FQ):FQ:=λx=>Ex.rec (motive:=λ_=>FE->Heap->Bool) (λe h=>b e h q) (λi=>q (.exit i)) (q .ret) x
def ziq (id:Nat) (q:FQ):FQ:=λx=>Ex.rec (motive:=λ_=>FE->Heap->Bool) (q .normal) (λi e h=>match Nat.beq i id with|true=>q .normal e h|false=>q (.exit i) e h) (q .ret) x
def zis (next:FC) (q:FQ):FQ:=λx=>Ex.rec (motive:=λ_=>FE->Heap->Bool) (λe h=>next e h q) (λi=>q (.exit i)) (q .ret) x
def zh2 (c:FC) (n:Nat):FC:=Nat.rec (motive:=λ_=>FC) (λ_ _ _=>false) (λ_ ih e h q=>c e h (zis ih q)) n
def zin:FC:=λe h q=>q .normal e h
def zhs (_:Nat) (ops:Array Oper) (d:Bool):FC:=λe h q=>match d with
 |false=>fOps P T C ops.toList ops.toList e h (q .normal)
 |true=>zhY P T C ops e h (q .normal)
def ziy (_ _:Code) (a b:FC):FC:=λe h q=>a e h (ziA b q)
def zik (c:Operand) (_ _:Code) (a b:FC):FC:=λe h q=>zf9 (fval c e) (a e h q) (b e h q)
def zhR (id:Nat) (_:Code) (c:FC):FC:=λe h q=>c e h (ziq id q)
def zim (fuel:Nat) (_:Code) (c:FC):FC:=zh2 c fuel
def zil (id:Nat):FC:=λe h q=>q (.exit id) e h
def zix:FC:=λe h q=>q .ret e h
def zhS (_:Nat):FC:=λe h q=>q .normal e h
def fEnv (e:FE):List Vly:=(List.range e.n).map λi=>ET.get (zaR i) e.t
def zhb (l:Nat) (e:FE) (h:Heap) (q:FQ):Bool :=
 match h.get l with
 |some (.loop env ps assign body st pend)=>(match st with
  | .busy=>false
  |_=>(match pend with
   |none=>q .normal e (h.set l (.loop env ps assign body .exhausted pend))
   |some (.exit id)=>q (.exit id) e (h.set l (.loop env ps assign body .exhausted pend))
   |some .ret=>q .ret e (h.set l (.loop env ps assign body .exhausted pend))
   |_=>false))
 |_=>false
def zf4 (rd:Option Nat) (g:Operand) (ps:Array Tmp) (assign body:Code) (_ _:FC):FC:=λe h q=>match fval g e with
 | .func (.func f) first captured=>(match zdg rd h && ze3 T f with
  |true=>C (.func f) (first.toList++[.func (.yield h.size) #[] #[]]++captured.toList) (h.push (.loop (fEnv e) ps.toList assign body .ready none)) λ_ h2=>zhb h.size e h2 q
  |false=>false)
 |_=>false
def zhT (_:Code) (c:FC):FC:=c
def zcu (rd:Option Nat) (fuel:Nat) (c:Code):FC :=
 Code.rec (motive:=λ_=>FC) zin (zhs P T C) ziy zik zhR (zim fuel) (zf4 T C rd) zil zhT zhS (λ_ _ _ _=>false) zix (λ_ _ _ _=>false) c

def fRes (r:ResultVar) (e:FE) (h:Heap):Option Vly:=match r with
 | .tmp t=>some (ET.get (zaR t) e.t)
 | .cell a y=>zb1 T y (ET.get (zaR a) e.t) h
def fFin (fn:Func) (k:FK):FQ:=λx e h=>match x with
 | .exit _=>false
 |_=>match fn.results.toList with
  | [r]=>zaO (fRes T r e h) h k
  |rs=>(match rs.mapM λr=>fRes T r e h with
   |some vs=>k (.tuple vs.toArray) h
   |none=>false)
end
def zfA (l:List Vly) (i:Nat) (t:ET) (k:ET->Bool):Bool :=
 List.rec (motive:=λ_=>Nat->ET->Bool) (λ_ t=>k t) (λv _ ih i t=>ET.setK (zaR i) v t (ih (i+1))) l i t
def zb7 (A:Nat) (jump:Option Code) (h:Heap) (k:FK):Bool :=
 match h.get A with
 |some (.loop env ps assign body _ _)=>k (.bool jump.isNone) (h.set A (.loop env ps assign body (if jump.isNone then .ready else .done) jump))
 |_=>false
def zfB (A:Nat) (k:FK):FQ:=λx=>Ex.rec (motive:=λ_=>FE->Heap->Bool) (λ_ h=>zb7 A none h k) (λid _ h=>zb7 A (some (.exit id)) h k) (λ_ h=>zb7 A (some .ret) h k) x
def zhg (F:Code->FC) (A:Nat) (body:Code) (k:FK):FQ:=λx=>Ex.rec (motive:=λ_=>FE->Heap->Bool)
 (λe h=>match h.get A with
  |some (.loop env ps assign body1 .ready pend)=>F body e (h.set A (.loop env ps assign body1 .busy pend)) (zfB A k)
  |_=>false) (λ_ _ _=>false) (λ_ _=>false) x
def zhh (F:Code->FC) (A:Nat) (args:List Vly) (h:Heap) (k:FK):Bool :=
 match h.get A with
 |some (.loop env ps assign body _ _)=>(match Nat.beq args.length ps.length with
  |true=>zfA (setAll env ps args) 0 .leaf λt=>F assign ⟨env.length,t⟩ h (zhg F A body k)
  |false=>false)
 |_=>false
def fPre (F:Code->FC):List Code->FE->Heap->(FE->Heap->Bool)->Bool
 | [],e,h,k=>k e h
 |c::cs,e,h,k=>F c e h λx e' h'=>match x with
  | .normal=>fPre F cs e' h' k
  |_=>false
def zhd (T:Tab) (F:Code->FC) (fn:Func) (g:Vly) (e3:FE) (h3:Heap) (k:FK):Bool:=match g with
 | .func (.func g) fi ca=>(match T.fn g with
  |some fg=>(match fg.body with
   |some cg=>(match zag cg && Nat.ble (fi.toList++ca.toList).length fg.ntmps with
    |true=>zfA (fi.toList++ca.toList) 0 .leaf λt=>F cg ⟨fg.ntmps,t⟩ h3 (fFin T fg λ_ h4=>fFin T fn k .ret e3 h4)
    |false=>false)
   |none=>false)
  |none=>false)
 |_=>false
def zhc (P:Program) (T:Tab) (C:Fn->List Vly->Heap->FK->Bool) (F:Code->FC) (fn:Func) (c:Code) (e:FE) (h:Heap) (k:FK):Bool:=match zce c with
 |some (pre,m,t,rest)=>(match pre.all zag && zag rest with
  |true=>fPre F pre e h λe1 h1=>fOp P T C m e1 h1 λv h2=>fPut m.dst v e1 λe2=>F rest e2 h2 λx e3 h3=>match x with
   | .exit _=>false
   |_=>zhd T F fn (ET.get (zaR t) e2.t) e3 h3 k
  |false=>false)
 |none=>false
def zh0 (P:Program) (T:Tab) (ov:Ov) (C:Fn->List Vly->Heap->FK->Bool) (F:Code->FC) (f:FuncId) (args:List Vly) (h:Heap) (k:FK):Bool :=
 match ov f with
 |some g=>zck (g args h) k
 |none=>match T.fn f with
  |some fn=>match fn.body with
   |some c=>match Nat.ble args.length fn.ntmps with
    |true=>zfA args 0 .leaf λt=>(match T.dfr f with
     |true=>zhc P T C F fn c ⟨fn.ntmps,t⟩ h k
     |false=>F c ⟨fn.ntmps,t⟩ h (fFin T fn k))
    |false=>false
   |none=>false
  |none=>false
def zgi (P:Program) (T:Tab) (ov:Ov) (fuel:Nat) (n:Nat):Fn->List Vly->Heap->FK->Bool :=
 Nat.rec (motive:=λ_=>Fn->List Vly->Heap->FK->Bool) (λ_ _ _ _=>false) (λ_ ih f args h k=>match f with
  | .func f=>zh0 P T ov ih (zcu P T ih none fuel) f args h k
  | .yield A=>zhh (zcu P T ih (some A) fuel) A args h k
  |_=>false) n
end Go.Am
