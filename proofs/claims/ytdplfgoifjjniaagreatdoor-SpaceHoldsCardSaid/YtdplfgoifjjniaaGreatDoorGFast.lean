/- The plain machine, told so that the kernel runs it fast: every step hands what it has on, and says yes or no. Definitions alone; no condition. -/
import Derived.Test.YtdplfgoifjjniaaGreatDoorG2
namespace Go.Am

/-! ### The places of a frame -/
inductive mW where
 |here
 |l (p:mW)
 |r (p:mW)
def BP:Nat→Nat→mW
 |0,_=>.here
 |n+1,i=>match i with
  |0=>.here
  |i+1=>match i % 2 with
   |0=>.l (BP n (i / 2))
   |_+1=>.r (BP n (i / 2))
def nQ (i:Nat):mW:=BP (i+1) i
inductive ET where
 |leaf
 |node (v:Value) (l r:ET)
noncomputable def ET.get (p:mW):ET→Value :=
 mW.rec (motive:=fun _=>ET→Value) (fun t=>ET.casesOn t undef fun v _ _=>v) (fun _ ih t=>ET.casesOn t undef fun _ l _=>ih l) (fun _ ih t=>ET.casesOn t undef fun _ _ r=>ih r) p
noncomputable def ET.set (p:mW) (v:Value):ET→ET :=
 mW.rec (motive:=fun _=>ET→ET) (fun t=>ET.casesOn t (.node v .leaf .leaf) fun _ l r=>.node v l r) (fun _ ih t=>ET.casesOn t (.node undef (ih .leaf) .leaf) fun x l r=>.node x (ih l) r)
  (fun _ ih t=>ET.casesOn t (.node undef .leaf (ih .leaf)) fun x l r=>.node x l (ih r)) p
noncomputable def ET.zF (p:mW) (v:Value):ET→(ET→Bool)→Bool :=
 mW.rec (motive:=fun _=>ET→(ET→Bool)→Bool) (fun t k=>ET.casesOn t (k (.node v .leaf .leaf)) fun _ l r=>k (.node v l r)) (fun _ ih t k=>ET.casesOn t (ih .leaf fun l=>k (.node undef l .leaf)) fun x l r=>ih l fun l=>k (.node x l r))
  (fun _ ih t k=>ET.casesOn t (ih .leaf fun r=>k (.node undef .leaf r)) fun x l r=>ih r fun r=>k (.node x l r)) p

structure FE where
 n:Nat
 t:ET

abbrev FK:=Value→Heap→Bool
abbrev fY:=FE→Heap→FK→Bool

noncomputable def bf (o:Operand):FE→Value :=
 Operand.rec (motive:=fun _=>FE→Value) (fun t e=>ET.get (nQ t) e.t) (fun v _=>v) (fun g _=>.pointer (some ⟨g,0,none⟩)) (fun f _=>.func (.func f) #[] #[]) o
noncomputable def pW (d:Option Tmp) (v:Value) (e:FE) (k:FE→Bool):Bool:=match d with
 |none=>k e
 |some i=>match Nat.blt i e.n with
  |true=>ET.zF (nQ i) v e.t fun t=>k ⟨e.n,t⟩
  |false=>k e

/-! ### The operations -/
def jS (r:Option Value) (h:Heap) (k:FK):Bool:=match r with
 |some v=>k v h
 |none=>false
def ma (r:Option Heap) (k:FK):Bool:=match r with
 |some h=>k undef h
 |none=>false
def td (r:Option (Value × Heap)) (k:FK):Bool:=match r with
 |some (v,h)=>k v h
 |none=>false
def E1 (v:Value) (a b:Bool):Bool:=match v with
 | .bool t=>(match t with|true=>a|false=>b)
 |_=>false

noncomputable def zBb (x:Operand):fY:=fun e h k=>k (bf x e) h
noncomputable def zDY (c a b:Operand):fY:=fun e h k=>E1 (bf c e) (k (bf a e) h) (k (bf b e) h)
noncomputable def zGP (t:TypeId) (x:Operand):fY:=fun e h k=>k (.pointer (some ⟨h.size,0,none⟩)) (h.push (.row (bf x e).cells.toList t false))
def zGQ:fY:=fun _ _ _=>false
def GR {α:Type}:α→fY:=fun _ _ _ _=>false
def GS {α β:Type}:α→β→fY:=fun _ _ _ _ _=>false
def zGR {α β γ:Type}:α→β→γ→fY:=fun _ _ _ _ _ _=>false
noncomputable def GM (l:List (Nat × Operand)) (e:FE):List (Nat × Value):=List.rec (motive:=fun _=>List (Nat × Value)) [] (fun p _ ih=>(p.1,bf p.2 e)::ih) l
noncomputable def wz (l:List Operand) (e:FE):List Value:=List.rec (motive:=fun _=>List Value) [] (fun x _ ih=>bf x e::ih) l
noncomputable def E4 (o:Option Operand) (e:FE):Option Value:=match o with
 |some x=>some (bf x e)
 |none=>none
noncomputable def YZ (x:Operand):fY:=fun e h k=>match bf x e with
 | .pointer (some a)=>k (.pointer (some a)) h
 | .func (.func f) a b=>k (.func (.func f) a b) h
 | .iface t a=>k (.iface t a) h
 |_=>false
noncomputable def zrd (fn:Fn) (first captured:Array Operand):fY:=fun e h k=>match fn with
 | .func f=>k (.func (.func f) ⟨wz first.toList e⟩ ⟨wz captured.toList e⟩) h
 |_=>false
noncomputable def Zj (t:Operand) (i:Nat):fY:=fun e h k=>match bf t e with
 | .tuple vs=>jS (vs.toList[i]?) h k
 |_=>false

section
variable (P:Program) (T:bD)
noncomputable def Z0 (t:TypeId):fY:=fun _ h k=>match T.info t with
 |some (_,_,z)=>k (.pointer (some ⟨h.size,0,none⟩)) (h.push (.row z t false))
 |none=>false
noncomputable def zCo (t:TypeId) (ps:Array (Nat × Operand)):fY:=fun e h k=>jS (nR T t (GM ps.toList e)) h k
noncomputable def zmL (t:TypeId) (n:Nat) (ps:Array (Nat × Operand)):fY:=fun e h k=>td (lQ T t n (GM ps.toList e) h) k
noncomputable def zDX (t:TypeId) (a:Operand):fY:=fun e h k=>jS (dz T t (bf a e) h) h k
noncomputable def zCu (t:TypeId) (a x:Operand):fY:=fun e h k=>ma (gA T t (bf a e) (bf x e) h) k
noncomputable def zCn (op:BinOp) (t:TypeId) (x y:Operand) (_:TypeId):fY:=fun e h k=>jS (bU P T op t (bf x e) (bf y e)) h k
noncomputable def zoL (t:TypeId) (l c:Operand):fY:=fun e h k=>td (Ek T t (bf l e) (bf c e) h) k
noncomputable def zCt (t:TypeId) (x:Operand) (l hi m:Option Operand):fY:=fun e h k=>jS (kf T t (bf x e) (E4 l e) (E4 hi e) (E4 m e)) h k
noncomputable def zoJ (s:TypeId) (x:Operand) (f:Nat):fY:=fun e h k=>jS (cV T s (bf x e) f) h k
noncomputable def zCq (s:TypeId) (x:Operand) (f:Nat):fY:=fun e h k=>jS (BC T s (bf x e) f) h k
noncomputable def zoK (t:TypeId) (x i:Operand):fY:=fun e h k=>jS (fM T t (bf x e) (bf i e)) h k

noncomputable def EI (o:Oper):fY:=fun e h k =>
 match (wz o.op.operands.toList e).all plain with
 |true=>match gF P (execOp (fun x=>bf x e) o) with
  |some (.value v)=>(match plain v with|true=>k v h|false=>false)
  |_=>false
 |false=>false

variable (C:Fn→List Value→Heap→FK→Bool)
noncomputable def ZO (ts:List TypeId) (xs:List Operand):fY:=fun e h k=>match ts,xs with
 | [t,u],[s,x]=>(match rm T t u with|true=>td (il T t (bf s e) (bf x e) h) k|false=>false)
 |_,_=>false
noncomputable def ztn (ts:List TypeId) (xs:List Operand):fY:=fun e h k=>match ts,xs with
 | [t,_],[d,s]=>td (Fa T t (bf d e) (bf s e) h) k
 |_,_=>false
noncomputable def Z1 (ts:List TypeId) (xs:List Operand):fY:=fun e h k=>match ts,xs with
 | [t],[x]=>ma (nP T t (bf x e) h) k
 |_,_=>false
noncomputable def Yq (ts:List TypeId) (xs:List Operand):fY:=fun e h k=>match ts,xs with
 |t::_,[x]=>jS (bd T t (bf x e) h) h k
 |_,_=>false
noncomputable def ZP (ts:List TypeId) (xs:List Operand):fY:=fun e h k=>match ts,xs with
 |t::_,[m,i]=>ma (sY T t (bf m e) (bf i e) h) k
 |_,_=>false
noncomputable def Yp (ts:List TypeId) (xs:List Operand):fY:=fun e h k=>match ts,xs with
 |t::_,[x]=>jS (tF T t (bf x e)) h k
 |_,_=>false
noncomputable def Zi (o:Oper) (s d:TypeId) (x:Operand):fY:=fun e h k=>match n6 T s with
 |true=>jS (Gr T s d (bf x e) h) h k
 |false=>match n6 T d with
  |true=>(match Gm T s with|true=>td (Bp T d (bf x e) h) k|false=>false)
  |false=>EI P o e h k
noncomputable def zCr (t:TypeId) (x:Operand):fY:=fun e h k=>jS (BD T t (bf x e)) h k
noncomputable def zwv (x:Operand) (_ t:TypeId) (ok:Bool):fY:=fun e h k=>jS (EC T (bf x e) t ok) h k
noncomputable def ZQ (r:Operand) (name:String) (xs:List Operand):fY:=fun e h k=>match bf r e with
 | .iface t x=>(match rf T t x name h with
  |some (f,y)=>C (.func f) (y::wz xs e) h k
  |none=>false)
 |_=>false
noncomputable def zmM (b:Builtin) (o:Oper) (ts:List TypeId) (xs:List Operand):fY :=
 match b with
 | .append=>ZO T ts xs
 | .copy=>ztn T ts xs
 | .clear=>Z1 T ts xs
 | .len=>Yq T ts xs
 | .min=>EI P o
 | .max=>EI P o
 | .delete=>ZP T ts xs
 | .cap=>Yp T ts xs
 |_=>zGQ
def Ct (l:List Value):List Value→List Value
 | []=>l
 |x::m=>l++(x::m)
noncomputable def Z2 (f:Operand) (xs:List Operand):fY:=fun e h k=>match bf f e with
 | .func (.func g) first captured=>C (.func g) (first.toList++Ct (wz xs e) captured.toList) h k
 | .func (.yield A) first captured=>(match first.isEmpty && captured.isEmpty with|true=>C (.yield A) (wz xs e) h k|false=>false)
 |_=>false
noncomputable def Zk (t:TypeId) (r:Option Operand):fY:=fun e h k=>match r with
 |none=>k (.map (some h.size)) (h.push (.map [] 0))
 |some x=>match T.desc t,bf x e with
  |some (.map _ _),.int _ _=>k (.map (some h.size)) (h.push (.map [] 0))
  |_,_=>false
noncomputable def zww (t:TypeId) (x i:Operand) (ok:Bool):fY:=fun e h k=>jS (vt T t (bf x e) (bf i e) ok h) h k
noncomputable def zp5 (t:TypeId) (m i x:Operand):fY:=fun e h k=>ma (mS T t (bf m e) (bf i e) (bf x e) h) k
noncomputable def zre (t:TypeId) (m i:Operand):fY:=fun e h k=>td (wo T t (bf m e) (bf i e) h) k
noncomputable def zmN (_:TypeId) (m s x:Operand):fY:=fun e h k=>ma (sd (bf m e) (bf s e) (bf x e) h) k
noncomputable def zDW (o:Oper) (c:Call):fY:=match c.callee with
 | .value f=>Z2 C f c.args.toList
 | .builtin b=>zmM P T b o c.argTypes.toList c.args.toList
 | .invoke r name=>ZQ T C r name c.args.toList

noncomputable def Nu (o:Oper):fY :=
 Op.casesOn (motive:=fun _=>fY) o.op zBb zBb zDY (Z0 T) zGP (zCo T) (zmL T) (zp5 T) (zDX T) (zCu T) GR GR YZ (zCn P T)
  (fun _ _ _=>EI P o) (Zi P T o) GS (zCr T) zrd (Zk T) GS (zoL T) (zCt T) (zoJ T) (zCq T) (zoK T) (fun _ _ _=>EI P o)
  (zww T) (zp5 T) (zre T) zmN GS GS GR (zwv T) Zj (zDW P T C o) GR GR GR GS zGR GS

/-! ### Regions -/
noncomputable def PJ (ops:List Oper) (g:Option (Nat × Bool)) (e:FE) (a b:Bool):Bool:=match g with
 |none=>a
 |some (j,c)=>match (ops[j]?).bind (·.dst) with
  |some t=>(match ET.get (nQ t) e.t with
   | .bool d=>(match d,c with|true,true=>a|false,false=>a|_,_=>b)
   |_=>b)
  |none=>b
def tH (h:Heap) (k:Heap→Bool):Bool:=match h.low with
 |0=>k ⟨h.size,h.tr,0⟩
 |n+1=>k ⟨h.size,h.tr,n+1⟩
noncomputable def ID (ops:List Oper) (o:Oper) (next:FE→Heap→(FE→Heap→Bool)→Bool) (e:FE) (h:Heap) (k:FE→Heap→Bool):Bool :=
 PJ ops o.guard e (Nu P T C o e h fun v h1=>tH h1 fun h'=>pW o.dst v e fun e'=>next e' h' k) (pW o.dst undef e fun e'=>next e' h k)
noncomputable def Cy (ops:List Oper) (l:List Oper):FE→Heap→(FE→Heap→Bool)→Bool :=
 List.rec (motive:=fun _=>FE→Heap→(FE→Heap→Bool)→Bool) (fun e h k=>k e h) (fun o _ ih=>ID P T C ops o ih) l

def zK (ops:Array Oper) (ms:List Nat):Bool :=
 (List.range ops.size).all fun j=>match ops[j]? with
  |some oj=>oj.after.toList.all (fun e => !Region.binds .any e || decide (e.on < j)) &&
   (List.range j).all fun i=>(ms.getD j 0).testBit i || (match ops[i]? with
    |some oi=>oi.apart ops oj
    |none=>true)
  |none=>true
def pd (ops:Array Oper) (i:Nat):Bool:=match ops[i]? with
 |some o=>mR T o
 |none=>true
def Yg (ops:Array Oper) (ms:List Nat):List (Nat × Nat) :=
 (List.range ops.size).flatMap fun j=>(List.range j).filterMap fun i=>if (ms.getD j 0).testBit i || pd T ops i || pd T ops j then none else some (i,j)
def MA (ks:List Nat):List (Nat × Nat)→Bool
 | []=>true
 |(i,j)::r=>oU (ks.getD i 2) (ks.getD j 2) && MA ks r
def zp2 (ops:Array Oper):Option (List (Nat × Nat)):=if zK ops (lJ ops.toList []) then some (Yg T ops (lJ ops.toList [])) else none
noncomputable def Ym (o:Oper) (e:FE) (n low:Nat):Nat:=match Nat.ble n low with
 |true=>(match o.op with
  | .load _ a=>(match bf a e with
   | .pointer (some x)=>3+3*x.block
   |_=>1)
  | .buildSlice _ _ _=>4+3*n
  |_=>1)
 |false=>(match o.op with
  | .store _ a _=>(match bf a e with
   | .pointer (some x)=>5+3*x.block
   |_=>2)
  |_=>2)
noncomputable def zDU (ops:List Oper) (o:Oper) (next:List Nat→FE→Heap→(List Nat→FE→Heap→Bool)→Bool) (ks:List Nat) (e:FE) (h:Heap) (k:List Nat→FE→Heap→Bool):Bool :=
 PJ ops o.guard e (Nu P T C o e { h with low:=h.size } fun v h'=>pW o.dst v e fun e'=>match mR T o with
    |true=>tH { h' with low:=min h.low h'.low } fun h2=>next (0::ks) e' h2 k
    |false=>tH { h' with low:=min h.low h'.low } fun h2=>next (Ym o e h.size h'.low::ks) e' h2 k)
  (pW o.dst undef e fun e'=>next (0::ks) e' h k)
noncomputable def Yo (ops:List Oper) (l:List Oper):List Nat→FE→Heap→(List Nat→FE→Heap→Bool)→Bool :=
 List.rec (motive:=fun _=>List Nat→FE→Heap→(List Nat→FE→Heap→Bool)→Bool) (fun ks e h k=>k ks e h) (fun o _ ih=>zDU P T C ops o ih) l
noncomputable def Yk (ops:Array Oper) (e:FE) (h:Heap) (k:FE→Heap→Bool):Bool :=
 match zp2 T ops with
 |some ps=>Yo P T C ops.toList ops.toList [] e h fun ks e' h'=>match MA ks.reverse ps with
  |true=>k e' h'
  |false=>false
 |none=>false

/-! ### Code -/
abbrev FQ:=Ex→FE→Heap→Bool
abbrev FC:=FE→Heap→FQ→Bool
noncomputable def zGO (b:FC) (q:FQ):FQ:=fun x=>Ex.rec (motive:=fun _=>FE→Heap→Bool) (fun e h=>b e h q) (fun i=>q (.exit i)) (q .ret) x
noncomputable def zDT (id:Nat) (q:FQ):FQ:=fun x=>Ex.rec (motive:=fun _=>FE→Heap→Bool) (q .normal) (fun i e h=>match Nat.beq i id with|true=>q .normal e h|false=>q (.exit i) e h) (q .ret) x
noncomputable def zDV (next:FC) (q:FQ):FQ:=fun x=>Ex.rec (motive:=fun _=>FE→Heap→Bool) (fun e h=>next e h q) (fun i=>q (.exit i)) (q .ret) x
noncomputable def Yn (c:FC) (n:Nat):FC:=Nat.rec (motive:=fun _=>FC) (fun _ _ _=>false) (fun _ ih e h q=>c e h (zDV ih q)) n
def zDJ:FC:=fun e h q=>q .normal e h
noncomputable def zwl (_:Nat) (ops:Array Oper) (d:Bool):FC:=fun e h q=>match d with
 |false=>Cy P T C ops.toList ops.toList e h (q .normal)
 |true=>Yk P T C ops e h (q .normal)
noncomputable def zGJ (_ _:Code) (a b:FC):FC:=fun e h q=>a e h (zGO b q)
noncomputable def zDG (c:Operand) (_ _:Code) (a b:FC):FC:=fun e h q=>E1 (bf c e) (a e h q) (b e h q)
noncomputable def zBW (id:Nat) (_:Code) (c:FC):FC:=fun e h q=>c e h (zDT id q)
noncomputable def zDI (fuel:Nat) (_:Code) (c:FC):FC:=Yn c fuel
def zDH (id:Nat):FC:=fun e h q=>q (.exit id) e h
def zGI:FC:=fun e h q=>q .ret e h
def zBX (_:Nat):FC:=fun e h q=>q .normal e h
noncomputable def Cx (e:FE):List Value:=(List.range e.n).map fun i=>ET.get (nQ i) e.t
def ztg (l:Nat) (e:FE) (h:Heap) (q:FQ):Bool :=
 match h.get l with
 |some (.loop env ps assign body st dt)=>(match st with
  | .busy=>false
  |_=>(match dt with
   |none=>q .normal e (h.set l (.loop env ps assign body .exhausted dt))
   |some (.exit id)=>q (.exit id) e (h.set l (.loop env ps assign body .exhausted dt))
   |some .ret=>q .ret e (h.set l (.loop env ps assign body .exhausted dt))
   |_=>false))
 |_=>false
noncomputable def zon (rd:Option Nat) (g:Operand) (ps:Array Tmp) (assign body:Code) (_ _:FC):FC:=fun e h q=>match bf g e with
 | .func (.func f) first captured=>(match O6 rd h && Pn T f with
  |true=>C (.func f) (first.toList++[.func (.yield h.size) #[] #[]]++captured.toList) (h.push (.loop (Cx e) ps.toList assign body .ready none)) fun _ h2=>ztg h.size e h2 q
  |false=>false)
 |_=>false
noncomputable def zBY (_:Code) (c:FC):FC:=c
noncomputable def qx (rd:Option Nat) (fuel:Nat) (c:Code):FC :=
 Code.rec (motive:=fun _=>FC) zDJ (zwl P T C) zGJ zDG zBW (zDI fuel) (zon T C rd) zDH zBY zBX (fun _ _ _ _=>false) zGI (fun _ _ _ _=>false) c

noncomputable def oz (r:ResultVar) (e:FE) (h:Heap):Option Value:=match r with
 | .tmp t=>some (ET.get (nQ t) e.t)
 | .cell a y=>dz T y (ET.get (nQ a) e.t) h
noncomputable def wV (fn:Func) (k:FK):FQ:=fun x e h=>match x with
 | .exit _=>false
 |_=>match fn.results.toList with
  | [r]=>jS (oz T r e h) h k
  |rs=>(match rs.mapM fun r=>oz T r e h with
   |some vs=>k (.tuple vs.toArray) h
   |none=>false)
end
noncomputable def MP (l:List Value) (i:Nat) (t:ET) (k:ET→Bool):Bool :=
 List.rec (motive:=fun _=>Nat→ET→Bool) (fun _ t=>k t) (fun v _ ih i t=>ET.zF (nQ i) v t (ih (i+1))) l i t
def Mc (A:Nat) (jump:Option Code) (h:Heap) (k:FK):Bool :=
 match h.get A with
 |some (.loop env ps assign body _ _)=>k (.bool jump.isNone) (h.set A (.loop env ps assign body (if jump.isNone then .ready else .done) jump))
 |_=>false
noncomputable def zmK (A:Nat) (k:FK):FQ:=fun x=>Ex.rec (motive:=fun _=>FE→Heap→Bool) (fun _ h=>Mc A none h k) (fun id _ h=>Mc A (some (.exit id)) h k) (fun _ h=>Mc A (some .ret) h k) x
noncomputable def ztl (F:Code→FC) (A:Nat) (body:Code) (k:FK):FQ:=fun x=>Ex.rec (motive:=fun _=>FE→Heap→Bool)
 (fun e h=>match h.get A with
  |some (.loop env ps assign k5 .ready dt)=>F body e (h.set A (.loop env ps assign k5 .busy dt)) (zmK A k)
  |_=>false) (fun _ _ _=>false) (fun _ _=>false) x
noncomputable def ztm (F:Code→FC) (A:Nat) (args:List Value) (h:Heap) (k:FK):Bool :=
 match h.get A with
 |some (.loop env ps assign body _ _)=>(match Nat.beq args.length ps.length with
  |true=>MP (eF env ps args) 0 .leaf fun t=>F assign ⟨env.length,t⟩ h (ztl F A body k)
  |false=>false)
 |_=>false
/-! ### A function that defers one call -/
noncomputable def wW (F:Code→FC):List Code→FE→Heap→(FE→Heap→Bool)→Bool
 | [],e,h,k=>k e h
 |c::cs,e,h,k=>F c e h fun x e' h'=>match x with
  | .normal=>wW F cs e' h' k
  |_=>false
noncomputable def zti (T:bD) (F:Code→FC) (fn:Func) (g:Value) (e3:FE) (h3:Heap) (k:FK):Bool:=match g with
 | .func (.func g) fi ca=>(match T.fn g with
  |some fg=>(match fg.body with
   |some cg=>(match jL cg && Nat.ble (fi.toList++ca.toList).length fg.ntmps with
    |true=>MP (fi.toList++ca.toList) 0 .leaf fun t=>F cg ⟨fg.ntmps,t⟩ h3 (wV T fg fun _ h4=>wV T fn k .ret e3 h4)
    |false=>false)
   |none=>false)
  |none=>false)
 |_=>false
noncomputable def zth (P:Program) (T:bD) (C:Fn→List Value→Heap→FK→Bool) (F:Code→FC) (fn:Func) (c:Code) (e:FE) (h:Heap) (k:FK):Bool:=match vy c with
 |some (pre,m,t,rest)=>(match pre.all jL && jL rest with
  |true=>wW F pre e h fun e1 h1=>Nu P T C m e1 h1 fun v h2=>pW m.dst v e1 fun e2=>F rest e2 h2 fun x e3 h3=>match x with
   | .exit _=>false
   |_=>zti T F fn (ET.get (nQ t) e2.t) e3 h3 k
  |false=>false)
 |none=>false
noncomputable def Yl (P:Program) (T:bD) (ov:Ov) (C:Fn→List Value→Heap→FK→Bool) (F:Code→FC) (f:FuncId) (args:List Value) (h:Heap) (k:FK):Bool :=
 match ov f with
 |some g=>td (g args h) k
 |none=>match T.fn f with
  |some fn=>match fn.body with
   |some c=>match Nat.ble args.length fn.ntmps with
    |true=>MP args 0 .leaf fun t=>(match T.Cu f with
     |true=>zth P T C F fn c ⟨fn.ntmps,t⟩ h k
     |false=>F c ⟨fn.ntmps,t⟩ h (wV T fn k))
    |false=>false
   |none=>false
  |none=>false
noncomputable def E3 (P:Program) (T:bD) (ov:Ov) (fuel:Nat) (n:Nat):Fn→List Value→Heap→FK→Bool :=
 Nat.rec (motive:=fun _=>Fn→List Value→Heap→FK→Bool) (fun _ _ _ _=>false) (fun _ ih f args h k=>match f with
  | .func f=>Yl P T ov ih (qx P T ih none fuel) f args h k
  | .yield A=>ztm (qx P T ih (some A) fuel) A args h k
  |_=>false) n
end Go.Am
