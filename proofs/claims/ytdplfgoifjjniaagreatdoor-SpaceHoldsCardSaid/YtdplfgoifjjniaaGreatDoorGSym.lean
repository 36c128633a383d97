/- Steps of the plain machine, for simp. No condition. -/
import Derived.Test.YtdplfgoifjjniaaGreatDoorG2
namespace Go.Am

def Heap.lay (h:Heap) (l:List bh) (w:Nat):Heap:={ l.foldl Heap.push h with low:=w }

theorem OM (l:List bh):∀ h:Heap,(l.foldl Heap.push h).size=h.size+l.length:=by
 induction l with
 |nil=>intro h;rfl
 |cons b l ih=>intro h;rw [List.foldl_cons,ih,Heap.size_push,List.length_cons];omega
theorem zkx (h:Heap) (w A:Nat):Heap.get { h with low:=w } A=h.get A:=rfl
theorem zmT (l:List bh):∀ (h:Heap) (A:Nat),(l.foldl Heap.push h).get A=if h.size≤A then l[A - h.size]? else h.get A:=by
 induction l with
 |nil =>
  intro h A
  simp only [List.foldl_nil]
  split
  ·rename_i hA
   simp only [Heap.get,List.getElem?_nil]
   rw [if_neg (by omega)]
  ·rfl
 |cons b l ih =>
  intro h A
  rw [List.foldl_cons,ih,Heap.size_push,Heap.bL]
  by_cases h1:h.size+1≤A
  ·rw [if_pos h1,if_pos (by omega),show A - h.size=(A - (h.size+1))+1 by omega,List.getElem?_cons_succ]
  ·rw [if_neg h1]
   by_cases h2:A=h.size
   ·rw [if_pos h2,if_pos (by omega),h2,Nat.sub_self,List.getElem?_cons_zero]
   ·rw [if_neg h2,if_neg (by omega)]

section
variable (h:Heap) (l:List bh) (w:Nat)
theorem bB:(h.lay l w).size=h.size+l.length:=OM l h
theorem ZX:(h.lay l w).low=w:=rfl
theorem zwJ (b:bh):(h.lay l w).push b=h.lay (l++[b]) w:=by
 simp only [Heap.lay,List.foldl_append,List.foldl_cons,List.foldl_nil]
 rfl
theorem kX (i:Nat):(h.lay l w).get (h.size+i)=l[i]? := by
 unfold Heap.lay
 rw [zkx,zmT,if_pos (by omega),show h.size+i - h.size=i by omega]
theorem Bi {A:Nat} (hA:A < h.size):(h.lay l w).get A=h.get A:=by
 unfold Heap.lay
 rw [zkx,zmT,if_neg (by omega)]
theorem ao:h=h.lay [] h.low:=rfl
theorem ZW (hw:min h.low h.size≤w):Ext h (h.lay l w):=⟨by rw [bB];omega,fun A hA=>Bi h l w hA,hw⟩
end

section
variable {P:Program} {T:bD} {ov:Ov}
section
variable (d:Option Tmp) (ty:TypeId) (pos:String) (af:Array Edge) (g:Option (Nat × Bool)) (e:Env) (h:Heap) (K:Value→Heap→Prop)
def aU (r:Option Value) (h:Heap) (K:Value→Heap→Prop):Prop:=match r with
 |some v=>K v h
 |none=>False
theorem zEF (x:Operand):bY P T ov ⟨d,.move x,ty,pos,af,g⟩ e h K=K (aZ e x) h:=rfl
theorem zA1 (x:Operand):bY P T ov ⟨d,.assign x,ty,pos,af,g⟩ e h K=K (aZ e x) h:=rfl
def Yh (c a b:Value):Option Value:=match c with | .bool t=>some (if t then a else b)|_=>none
theorem zr1 (a b:Value):Yh (.bool true) a b=some a:=rfl
theorem zpl (a b:Value):Yh (.bool false) a b=some b:=rfl
theorem sW (r:Option Value):bW (r.map fun v=>(v,h)) K=aU r h K:=by cases r <;> rfl
theorem zEG (c a b:Operand):bY P T ov ⟨d,.pick c a b,ty,pos,af,g⟩ e h K=aU (Yh (aZ e c) (aZ e a) (aZ e b)) h K:=by
 show bW (zH6 (aZ e c) (aZ e a) (aZ e b) h) K=_
 cases aZ e c <;> rfl
theorem wk (t:TypeId) {n b:Nat} {z:List Value} (hz:T.info t=some (n,b,z)):bY P T ov ⟨d,.alloc t,ty,pos,af,g⟩ e h K=K (.pointer (some ⟨h.size,0,none⟩)) (h.push (.row z t false)):=by
 show bW ((T.info t).map fun (_,_,z)=>newRow t z h) K=_
 rw [hz];rfl
theorem zIH (t:TypeId) (x:Operand):bY P T ov ⟨d,.box t x,ty,pos,af,g⟩ e h K=K (.pointer (some ⟨h.size,0,none⟩)) (h.push (.row (aZ e x).cells.toList t false)):=rfl
def EH (e:Env):List (Nat × Operand)→List (Nat × Value)
 | []=>[]
 |(i,x)::l=>(i,aZ e x)::EH e l
theorem znz (l:List (Nat × Operand)):l.map (fun (i,x)=>(i,aZ e x))=EH e l:=by
 induction l with
 |nil=>rfl
 |cons a l ih=>rw [List.map_cons,ih];rfl
theorem zr0:EH e []=[]:=rfl
theorem zpk (i:Nat) (x:Operand) (l:List (Nat × Operand)):EH e ((i,x)::l)=(i,aZ e x)::EH e l:=rfl
theorem zDl (t:TypeId) (ps:List (Nat × Operand)):bY P T ov ⟨d,.build t ⟨ps⟩,ty,pos,af,g⟩ e h K=aU (nR T t (EH e ps)) h K:=by
 rw [← sW,← znz];rfl
theorem zn7 (t:TypeId) (n:Nat) (ps:List (Nat × Operand)):bY P T ov ⟨d,.buildSlice t n ⟨ps⟩,ty,pos,af,g⟩ e h K=bW (lQ T t n (EH e ps) h) K:=by
 rw [← znz];rfl
theorem zEE (t:TypeId) (x:Operand):bY P T ov ⟨d,.load t x,ty,pos,af,g⟩ e h K=aU (dz T t (aZ e x) h) h K:=by rw [← sW];rfl
def gv (r:Option Heap) (K:Value→Heap→Prop):Prop:=match r with
 |some h=>K undef h
 |none=>False
theorem ztT:gv (some h) K=K undef h:=rfl
theorem zDp (t:TypeId) (x y:Operand):bY P T ov ⟨d,.store t x y,ty,pos,af,g⟩ e h K=gv (gA T t (aZ e x) (aZ e y) h) K:=by
 show bW ((gA T t (aZ e x) (aZ e y) h).map fun h'=>(undef,h')) K=_
 cases gA T t (aZ e x) (aZ e y) h <;> rfl
def D9 (v:Value):Option Value:=match v with
 | .pointer (some a)=>some (.pointer (some a))
 | .func (.func f) a b=>some (.func (.func f) a b)
 | .iface t a=>some (.iface t a)
 |_=>none
theorem zwS (a:Addr):D9 (.pointer (some a))=some (.pointer (some a)):=rfl
theorem ztY (f:FuncId) (a b:Array Value):D9 (.func (.func f) a b)=some (.func (.func f) a b):=rfl
theorem zsC (x:Operand):bY P T ov ⟨d,.nilCheck x,ty,pos,af,g⟩ e h K=aU (D9 (aZ e x)) h K:=by
 show bW (Xl (aZ e x) h) K=_
 generalize aZ e x=v
 cases v <;> try rfl
 ·rename_i p;cases p <;> rfl
 ·rename_i f a b;cases f <;> rfl
theorem zDk (op:BinOp) (t:TypeId) (x y:Operand) (yt:TypeId):bY P T ov ⟨d,.binOp op t x y yt,ty,pos,af,g⟩ e h K=aU (bU P T op t (aZ e x) (aZ e y)) h K:=by rw [← sW];rfl
theorem zsA (f:FuncId) (fi ca:List Operand):bY P T ov ⟨d,.makeFunc (.func f) ⟨fi⟩ ⟨ca⟩,ty,pos,af,g⟩ e h K=K (.func (.func f) ⟨wy e fi⟩ ⟨wy e ca⟩) h:=by
 rw [← Mr,← Mr]
 show K (.func (.func f) (Array.map (aZ e) ⟨fi⟩) (Array.map (aZ e) ⟨ca⟩)) h=_
 congr 2 <;> simp
theorem zpP (t:TypeId) (l c:Operand):bY P T ov ⟨d,.makeSlice t l c,ty,pos,af,g⟩ e h K=bW (Ek T t (aZ e l) (aZ e c) h) K:=rfl
def u4 (e:Env):Option Operand→Option Value
 |some x=>some (aZ e x)
 |none=>none
theorem zus (x:Operand):u4 e (some x)=some (aZ e x):=rfl
theorem zur:u4 e none=none:=rfl
theorem zDo (t:TypeId) (x:Operand) (l hi m:Option Operand):bY P T ov ⟨d,.slice t x l hi m,ty,pos,af,g⟩ e h K=aU (kf T t (aZ e x) (u4 e l) (u4 e hi) (u4 e m)) h K:=by
 rw [← sW];cases l <;> cases hi <;> cases m <;> rfl
theorem zpN (s:TypeId) (x:Operand) (f:Nat):bY P T ov ⟨d,.fieldAddr s x f,ty,pos,af,g⟩ e h K=aU (cV T s (aZ e x) f) h K:=by rw [← sW];rfl
theorem zDm (s:TypeId) (x:Operand) (f:Nat):bY P T ov ⟨d,.field s x f,ty,pos,af,g⟩ e h K=aU (BC T s (aZ e x) f) h K:=by rw [← sW];rfl
theorem zpO (t:TypeId) (x i:Operand):bY P T ov ⟨d,.indexAddr t x i,ty,pos,af,g⟩ e h K=aU (fM T t (aZ e x) (aZ e i)) h K:=by rw [← sW];rfl
def Ec (v:Value) (i:Nat):Option Value:=match v with | .tuple vs=>vs[i]?|_=>none
theorem zss (vs:List Value) (i:Nat):Ec (.tuple ⟨vs⟩) i=vs[i]? := by simp [Ec]
theorem zv5 (t:Operand) (i:Nat):bY P T ov ⟨d,.extract t i,ty,pos,af,g⟩ e h K=aU (Ec (aZ e t) i) h K:=by
 rw [← sW]
 show bW (X0 (aZ e t) i h) K=_
 cases aZ e t <;> rfl
theorem zEH (op:UnOp) (t:TypeId) (x:Operand):bY P T ov ⟨d,.unOp op t x,ty,pos,af,g⟩ e h K=bW (gi P e ⟨d,.unOp op t x,ty,pos,af,g⟩ h) K:=rfl
theorem zn8 (s t:TypeId) (x:Operand) (h1:n6 T s=false) (h2:n6 T t=false):bY P T ov ⟨d,.convert s t x,ty,pos,af,g⟩ e h K=bW (gi P e ⟨d,.convert s t x,ty,pos,af,g⟩ h) K:=by
 show bW (if n6 T s then (Gr T s t (aZ e x) h).map fun r=>(r,h) else if n6 T t then (if Gm T s then Bp T t (aZ e x) h else none) else gi P e ⟨d,.convert s t x,ty,pos,af,g⟩ h) K=_
 rw [h1,h2]
 rfl
theorem zDn (t:TypeId) (x i:Operand):bY P T ov ⟨d,.index t x i,ty,pos,af,g⟩ e h K=bW (gi P e ⟨d,.index t x i,ty,pos,af,g⟩ h) K:=rfl
theorem zII (t:TypeId) (x:Operand):bY P T ov ⟨d,.call ⟨.builtin .len,#[x],#[t]⟩,ty,pos,af,g⟩ e h K=aU (bd T t (aZ e x) h) h K:=by rw [← sW];rfl
theorem sX (t u:TypeId) (s x:Operand) (hs:rm T t u=true):bY P T ov ⟨d,.call ⟨.builtin .append,#[s,x],#[t,u]⟩,ty,pos,af,g⟩ e h K=bW (il T t (aZ e s) (aZ e x) h) K:=by
 show bW (if rm T t u then il T t (aZ e s) (aZ e x) h else none) K=_
 rw [if_pos hs]
theorem zED (t u:TypeId) (s x:Operand):bY P T ov ⟨d,.call ⟨.builtin .copy,#[s,x],#[t,u]⟩,ty,pos,af,g⟩ e h K=bW (Fa T t (aZ e s) (aZ e x) h) K:=rfl
theorem zIK (x y:Operand) (eH:Array TypeId):bY P T ov ⟨d,.call ⟨.builtin .min,#[x,y],eH⟩,ty,pos,af,g⟩ e h K=bW (gi P e ⟨d,.call ⟨.builtin .min,#[x,y],eH⟩,ty,pos,af,g⟩ h) K:=rfl
theorem zIJ (x y:Operand) (eH:Array TypeId):bY P T ov ⟨d,.call ⟨.builtin .max,#[x,y],eH⟩,ty,pos,af,g⟩ e h K=bW (gi P e ⟨d,.call ⟨.builtin .max,#[x,y],eH⟩,ty,pos,af,g⟩ h) K:=rfl
end

def BO:List Oper→Nat→Option Tmp
 | [],_=>none
 |o::_,0=>o.dst
 |_::l,n+1=>BO l n
theorem zp3:∀ (l:List Oper) (j:Nat),(l[j]?).bind (·.dst)=BO l j
 | [],j=>by simp [BO]
 |o::l,0=>by simp [BO]
 |o::l,j+1=>by rw [List.getElem?_cons_succ,zp3 l j];rfl
theorem zrc (o:Oper) (l:List Oper):BO (o::l) 0=o.dst:=rfl
theorem zrb (o:Oper) (l:List Oper) (n:Nat):BO (o::l) (n+1)=BO l n:=rfl
def zBg (t:Option Tmp) (e:Env) (b:Bool):Bool:=match t with|some t=>zR (e.get t) b|none=>false
theorem zoX (t:Tmp) (e:Env) (b:Bool):zBg (some t) e b=zR (e.get t) b:=rfl
theorem zDq (ops:List Oper) (d:Option Tmp) (op:Op) (ty:TypeId) (pos:String) (af:Array Edge) (e:Env) (j:Nat) (b:Bool):kP ⟨ops⟩ ⟨d,op,ty,pos,af,some (j,b)⟩ e=zBg (BO ops j) e b:=by
 rw [← zp3]
 simp only [kP,List.getElem?_toArray]
 cases (ops[j]?).bind (·.dst) <;> rfl
theorem zwF:zR (.bool true) true=true:=rfl
theorem zwC:zR (.bool false) false=true:=rfl
theorem zwE:zR (.bool true) false=false:=rfl
theorem zwD:zR (.bool false) true=false:=rfl

def lH (b:Option bh) (o:Nat):Option Value:=match b with
 |some (.row cs _ _)=>cs[o]?
 |_=>none
theorem zsY (cs:List Value) (e:TypeId) (r:Bool) (o:Nat):lH (some (.row cs e r)) o=cs[o]? := rfl
def kx (b:Option bh) (o n:Nat):Option Value:=match b with
 |some (.row cs _ _)=>(cut cs o n).map fun l=>.agg l.toArray
 |_=>none
theorem zwo (cs:List Value) (e:TypeId) (r:Bool) (o n:Nat):kx (some (.row cs e r)) o n=(cut cs o n).map fun l=>.agg l.toArray:=rfl
theorem oa {t:TypeId} {A o:Nat} {h:Heap} (hg:aq T t=some false):dz T t (.pointer (some ⟨A,o,none⟩)) h=lH (h.get A) o:=by
 simp only [dz,hg,Option.bind_some,gL]
 cases h.get A with
 |none=>rfl
 |some b =>
  cases b with
  |dead=>rfl
  |map es c=>rfl
  |loop _ _ _ _ _ _=>rfl
  |row cs e r =>
   simp only [cut,lH,Bool.false_eq_true,if_false]
   split
   ·rename_i hl
    simp [List.getElem?_drop]
   ·rename_i hl
    rw [List.getElem?_eq_none (by omega)];rfl
theorem zM {t:TypeId} {A o n:Nat} {h:Heap} (hg:aq T t=some true) (hs:bO T t=some n):dz T t (.pointer (some ⟨A,o,none⟩)) h=kx (h.get A) o n:=by
 simp only [dz,hg,hs,Option.bind_some,gL,if_true]
 cases h.get A with
 |none=>rfl
 |some b=>cases b <;> rfl
theorem zwK {t:TypeId} {s:ByteArray} {h:Heap} (hd:T.desc t=some .string):bd T t (.string s) h=some (.int .i64 s.size):=by simp [bd,hd]
theorem sU {t e:TypeId} {a:Option Addr} {n c:Nat} {h:Heap} (hd:T.desc t=some (.slice e)):bd T t (.slice a n c) h=some (.int .i64 n):=by simp [bd,hd]
theorem zCA {t e:TypeId} {m k:Nat} {A o:Nat} {ik:IntKind} {i:Int} (hd:T.desc t=some (.array m e)) (hs:bO T e=some k) :
 fM T t (.pointer (some ⟨A,o,none⟩)) (.int ik i)=if 0≤i∧i < m then some (.pointer (some ⟨A,o+i.toNat*k,none⟩)) else none:=by simp [fM,hd,hs]
theorem sP {t e:TypeId} {k:Nat} {A o n c:Nat} {ik:IntKind} {i:Int} (hd:T.desc t=some (.slice e)) (hs:bO T e=some k) :
 fM T t (.slice (some ⟨A,o,none⟩) n c) (.int ik i)=if 0≤i∧i < n then some (.pointer (some ⟨A,o+i.toNat*k,none⟩)) else none:=by simp [fM,hd,hs]
theorem vF {t e:TypeId} {k b:Nat} {z:List Value} (hd:T.desc t=some (.slice e)) (hi:T.info e=some (k,b,z)) (len:Nat) (parts:List (Nat × Value)) (h:Heap) :
 lQ T t len parts h=if len*k > 16777216 || len > 16777216 then none else (lI (fun i=>some (i*k,k)) (jo z len) parts).map fun cs=>(.slice (some ⟨h.size,0,none⟩) len len,h.push (.row cs e false)):=by
 simp [lQ,hd,hi]
theorem ztw (place:Nat→Option (Nat × Nat)) (cells:List Value):lI place cells []=some cells:=rfl
theorem ztx (cells:List Value) (i k:Nat) (v:Value) (rest:List (Nat × Value)) (h1:v.cells.size=k) (h2:i*k+k≤cells.length) :
 lI (fun i=>some (i*k,k)) cells ((i,v)::rest)=lI (fun i=>some (i*k,k)) (ay cells (i*k) v.cells.toList) rest:=by
 simp [lI,h1,h2]
theorem wrap_i64 {i:Int} (h1 : -9223372036854775808≤i) (h2:i < 9223372036854775808):IntKind.i64.wrap i=i:=by
 show (if (true && decide (i % (2 ^ 64:Int) ≥ (2 ^ 63:Int)))=true then i % (2 ^ 64:Int) - (2 ^ 64:Int) else i % (2 ^ 64:Int))=i
 by_cases hc:i % (2 ^ 64:Int) ≥ (2 ^ 63:Int)
 ·rw [if_pos (by simpa using hc)];omega
 ·rw [if_neg (by simpa using hc)];omega
theorem bm {t:TypeId} {cs:List Value} {o:Nat} (hg:aq T t=some false):aP T t cs o=cs[o]? := by simp [aP,hg]
theorem eJ {t:TypeId} {cs:List Value} {o n:Nat} (hg:aq T t=some true) (hs:bO T t=some n):aP T t cs o=(cut cs o n).map fun l=>.agg l.toArray:=by simp [aP,hg,hs]

/-! ### A comparison parts the ways at once -/
def pL (b:Bool) (h:Heap) (K:Value→Heap→Prop):Prop:=(b=true→K (.bool true) h)∧(b=false→K (.bool false) h)
theorem zv1 (b:Bool) (h:Heap) (K:Value→Heap→Prop):aU (some (.bool b)) h K=pL b h K:=by
 cases b <;> simp [aU,pL]
theorem zkv (h:Heap) (K:Value→Heap→Prop):pL true h K=K (.bool true) h:=by simp [pL]
theorem OG (h:Heap) (K:Value→Heap→Prop):pL false h K=K (.bool false) h:=by simp [pL]
theorem zAX (k:IntKind) (i:Int) (h:Heap) (K:Value→Heap→Prop):aU (some (.int k i)) h K=K (.int k i) h:=rfl
theorem zAZ (s:ByteArray) (h:Heap) (K:Value→Heap→Prop):aU (some (.string s)) h K=K (.string s) h:=rfl
theorem zAY (a:Option Addr) (h:Heap) (K:Value→Heap→Prop):aU (some (.pointer a)) h K=K (.pointer a) h:=rfl
theorem zsy (a:Option Addr) (n c:Nat) (h:Heap) (K:Value→Heap→Prop):aU (some (.slice a n c)) h K=K (.slice a n c) h:=rfl
theorem zAW (cs:Array Value) (h:Heap) (K:Value→Heap→Prop):aU (some (.agg cs)) h K=K (.agg cs) h:=rfl
theorem zv2 (f:FuncId) (a b:Array Value) (h:Heap) (K:Value→Heap→Prop):aU (some (.func (.func f) a b)) h K=K (.func (.func f) a b) h:=rfl

/-! ### One round more -/
theorem bY.one {o:Oper} {e:Env} {h:Heap} {K:Value→Heap→Prop} (hw:bY P T ov o e h K):∃ v h',K v h'∧∀ K':Value→Heap→Prop,K' v h'→bY P T ov o e h K':=by
 unfold bY at hw
 split at hw
 ·rename_i f args eH aL
  split at hw
  ·rename_i g fi ca hf
   obtain ⟨n,v,h',h1,h2⟩:=hw
   refine ⟨v,h',h2,fun K' hk=>?_⟩
   unfold bY
   simp only [aL,hf]
   exact ⟨n,v,h',h1,hk⟩
  ·rename_i A fi ca hf
   obtain ⟨hc,n,v,h',h1,h2⟩:=hw
   refine ⟨v,h',h2,fun K' hk=>?_⟩
   unfold bY
   simp only [aL,hf]
   exact ⟨hc,n,v,h',h1,hk⟩
  ·exact hw.elim
 ·rename_i r name args eH aL
  split at hw
  ·rename_i t x hr
   split at hw
   ·rename_i f y hm
    obtain ⟨n,v,h',h1,h2⟩:=hw
    refine ⟨v,h',h2,fun K' hk=>?_⟩
    unfold bY
    simp only [aL,hr,hm]
    exact ⟨n,v,h',h1,hk⟩
   ·exact hw.elim
  ·exact hw.elim
 ·rename_i oN Wt
  unfold bW at hw
  split at hw
  ·rename_i v h' h1
   refine ⟨v,h',hw,fun K' hk=>?_⟩
   unfold bY
   split
   ·rename_i f args eH aL;exact (oN f args eH aL).elim
   ·rename_i r name args eH aL;exact (Wt r name args eH aL).elim
   ·rw [h1];exact hk
  ·exact hw.elim
theorem cQ.one {ops:Array Oper}:∀ (l:List Oper) (e:Env) (h:Heap) (Q:Env→Heap→Prop),cQ P T ov ops l e h Q→∃ e' h',Q e' h'∧∀ Q':Env→Heap→Prop,Q' e' h'→cQ P T ov ops l e h Q'
 | [],e,h,Q,hw=>⟨e,h,hw,fun _ hq=>hq⟩
 |o::l,e,h,Q,hw=>by
  simp only [cQ,qz] at hw ⊢
  split at hw
  ·rename_i hZ
   obtain ⟨v,h1,h2,h3⟩:=bY.one hw
   obtain ⟨e',h',h4,h5⟩:=cQ.one l _ _ _ h2
   exact ⟨e',h',h4,fun Q' hq=>by rw [if_pos hZ];exact h3 _ (h5 Q' hq)⟩
  ·rename_i hZ
   obtain ⟨e',h',h4,h5⟩:=cQ.one l _ _ _ hw
   exact ⟨e',h',h4,fun Q' hq=>by rw [if_neg hZ];exact h5 Q' hq⟩
theorem cw.one {ops:Array Oper}:∀ (l:List Oper) (ks:List Nat) (e:Env) (h:Heap) (Q:List Nat→Env→Heap→Prop),cw P T ov ops l ks e h Q→∃ fF e' h',Q fF e' h'∧∀ Q':List Nat→Env→Heap→Prop,Q' fF e' h'→cw P T ov ops l ks e h Q'
 | [],ks,e,h,Q,hw=>⟨ks,e,h,hw,fun _ hq=>hq⟩
 |o::l,ks,e,h,Q,hw=>by
  simp only [cw,qz] at hw ⊢
  split at hw
  ·rename_i hZ
   obtain ⟨v,h1,h2,h3⟩:=bY.one hw
   obtain ⟨fF,e',h',h4,h5⟩:=cw.one l _ _ _ _ h2
   exact ⟨fF,e',h',h4,fun Q' hq=>by rw [if_pos hZ];exact h3 _ (h5 Q' hq)⟩
  ·rename_i hZ
   obtain ⟨fF,e',h',h4,h5⟩:=cw.one l _ _ _ _ hw
   exact ⟨fF,e',h',h4,fun Q' hq=>by rw [if_neg hZ];exact h5 Q' hq⟩
def MY (P:Program) (T:bD) (ov:Ov) (rd:Option Nat) (c:Code) (Q:Ex→Env→Heap→Prop):Ex→Env→Heap→Prop
 | .normal,e',h'=>W P T ov rd (.loop c) e' h' Q
 | .exit i,e',h'=>Q (.exit i) e' h'
 | .ret,e',h'=>Q .ret e' h'
section
variable {rd:Option Nat}
theorem W.one:∀ (c:Code) (e:Env) (h:Heap) (Q:Ex→Env→Heap→Prop),W P T ov rd c e h Q→∃ x e' h',Q x e' h'∧∀ Q':Ex→Env→Heap→Prop,Q' x e' h'→W P T ov rd c e h Q':=by
 intro c
 induction c with
 |skip=>intro e h Q hw;exact ⟨_,_,_,hw,fun _ hq=>hq⟩
 |region id ops d =>
  intro e h Q hw
  cases d with
  |false =>
   obtain ⟨e',h',h1,h2⟩:=cQ.one _ _ _ _ hw
   exact ⟨_,e',h',h1,fun Q' hq=>h2 _ hq⟩
  |true =>
   obtain ⟨ks,e',h',h1,h2⟩:=cw.one _ _ _ _ _ hw
   exact ⟨_,e',h',h1.2,fun Q' hq=>h2 _ ⟨h1.1,hq⟩⟩
 |seq a b gI gJ =>
  intro e h Q hw
  simp only [W] at hw ⊢
  obtain ⟨x,e1,h1,h2,h3⟩:=gI _ _ _ hw
  cases x with
  |normal =>
   obtain ⟨x,e2,h4,h5,h6⟩:=gJ _ _ _ h2
   exact ⟨x,e2,h4,h5,fun Q' hq=>h3 _ (h6 Q' hq)⟩
  |exit id=>exact ⟨_,e1,h1,h2,fun Q' hq=>h3 _ hq⟩
  |ret=>exact ⟨_,e1,h1,h2,fun Q' hq=>h3 _ hq⟩
 |cond c a b gI gJ =>
  intro e h Q hw
  simp only [W,zZ] at hw ⊢
  split at hw
  ·rename_i t ht
   cases t with
   |true =>
    obtain ⟨x,e1,h1,h2,h3⟩:=gI _ _ _ (hw.1 rfl)
    exact ⟨x,e1,h1,h2,fun Q' hq=>⟨fun _=>h3 Q' hq,fun hh=>nomatch hh⟩⟩
   |false =>
    obtain ⟨x,e1,h1,h2,h3⟩:=gJ _ _ _ (hw.2 rfl)
    exact ⟨x,e1,h1,h2,fun Q' hq=>⟨fun hh=>(nomatch hh),fun _=>h3 Q' hq⟩⟩
  ·exact hw.elim
 |block id c ih =>
  intro e h Q hw
  simp only [W] at hw ⊢
  obtain ⟨x,e1,h1,h2,h3⟩:=ih _ _ _ hw
  cases x with
  |normal=>exact ⟨.normal,e1,h1,h2,fun Q' hq=>h3 _ hq⟩
  |exit i =>
   by_cases hi:i=id
   ·simp only [if_pos hi] at h2
    exact ⟨.normal,e1,h1,h2,fun Q' hq=>h3 _ (by simp only [if_pos hi];exact hq)⟩
   ·simp only [if_neg hi] at h2
    exact ⟨.exit i,e1,h1,h2,fun Q' hq=>h3 _ (by simp only [if_neg hi];exact hq)⟩
  |ret=>exact ⟨.ret,e1,h1,h2,fun Q' hq=>h3 _ hq⟩
 |loop c ih =>
  intro e h Q hw
  simp only [W] at hw ⊢
  obtain ⟨n,hw⟩:=hw
  induction n generalizing e h with
  |zero=>exact hw.elim
  |succ n Kg =>
   simp only [dj] at hw
   obtain ⟨x,e1,h1,h2,h3⟩:=ih _ _ _ hw
   cases x with
   |normal =>
    obtain ⟨x,e2,h4,h5,h6⟩:=Kg _ _ h2
    refine ⟨x,e2,h4,h5,fun Q' hq=>?_⟩
    obtain ⟨m,hm⟩:=h6 Q' hq
    exact ⟨m+1,by simp only [dj];exact h3 _ hm⟩
   |exit id=>exact ⟨.exit id,e1,h1,h2,fun Q' hq=>⟨1,by simp only [dj];exact h3 _ hq⟩⟩
   |ret=>exact ⟨.ret,e1,h1,h2,fun Q' hq=>⟨1,by simp only [dj];exact h3 _ hq⟩⟩
 |exit id=>intro e h Q hw;exact ⟨_,_,_,hw,fun _ hq=>hq⟩
 |ret=>intro e h Q hw;exact ⟨_,_,_,hw,fun _ hq=>hq⟩
 |label l=>intro e h Q hw;exact ⟨_,_,_,hw,fun _ hq=>hq⟩
 |rangeFunc g ps a b _ _ =>
  intro e h Q hw
  simp only [W,EX] at hw
  split at hw
  ·rename_i f fi ca hg
   obtain ⟨hc,n,v,h1,h2,h3⟩:=hw
   unfold GP at h3
   split at h3
   ·rename_i x e' h' h4
    refine ⟨x,e',h',h3,fun Q' hq=>?_⟩
    simp only [W,EX,hg]
    exact ⟨hc,n,v,h1,h2,by show GP (Bj h.size e h1) Q';rw [h4];exact hq⟩
   ·exact h3.elim
  ·exact hw.elim
 |scope c ih=>intro e h Q hw;exact ih _ _ _ hw
 |goto l=>intro e h Q hw;exact hw.elim
 |refuse s=>intro e h Q hw;exact hw.elim
theorem Mq {c:Code} {e:Env} {h:Heap} {Q:Ex→Env→Heap→Prop} (hw:W P T ov rd c e h (MY P T ov rd c Q)):W P T ov rd (.loop c) e h Q:=by
 obtain ⟨x,e1,h1,h2,h3⟩:=W.one _ _ _ _ hw
 simp only [W]
 cases x with
 |normal =>
  simp only [MY,W] at h2
  obtain ⟨n,hn⟩:=h2
  exact ⟨n+1,by simp only [dj];exact h3 _ hn⟩
 |exit id=>exact ⟨1,by simp only [dj];exact h3 _ h2⟩
 |ret=>exact ⟨1,by simp only [dj];exact h3 _ h2⟩
theorem zlT (c:Code) (Q:Ex→Env→Heap→Prop) (e:Env) (h:Heap):MY P T ov rd c Q .normal e h=W P T ov rd (.loop c) e h Q:=rfl
theorem zpo (c:Code) (Q:Ex→Env→Heap→Prop) (i:Nat) (e:Env) (h:Heap):MY P T ov rd c Q (.exit i) e h=Q (.exit i) e h:=rfl
theorem zr7 (c:Code) (Q:Ex→Env→Heap→Prop) (e:Env) (h:Heap):MY P T ov rd c Q .ret e h=Q .ret e h:=rfl
end
theorem bN {fn:Func} {t:Tmp} {K:Value→Heap→Prop} {e:Env} {h:Heap} (hr:fn.results=#[.tmp t]):aA T fn K .ret e h=K (e.get t) h:=by
 simp [aA,lF,hr,rh]
theorem ZR {fn:Func} {t:Tmp} {y:TypeId} {K:Value→Heap→Prop} {e:Env} {h:Heap} (hr:fn.results=#[.cell t y]):aA T fn K .ret e h=aU (dz T y (e.get t) h) h K:=by
 simp only [aA,lF,hr,rh,aU]
 cases dz T y (e.get t) h <;> simp
theorem s7 {fn:Func} {t u:Tmp} {K:Value→Heap→Prop} {e:Env} {h:Heap} (hr:fn.results=#[.tmp t,.tmp u]):aA T fn K .ret e h=K (.tuple #[e.get t,e.get u]) h:=by
 simp [aA,lF,hr,rh]
end
noncomputable def Bg:=PLift.up (And.intro @zwc <| And.intro @zl5 <| And.intro @zsi <| And.intro @zpA <| And.intro @zv9 <| And.intro @zDz <| And.intro @zwd <| And.intro @ztZ <| And.intro @zDy <| And.intro @zsK <| And.intro @zDv <| And.intro @zDw <| And.intro @zEJ <| And.intro @zBw <| And.intro @zn6 <| And.intro @zsq <| And.intro @zvS <| And.intro @zk7 <| And.intro @zol <| And.intro @zqS <| And.intro @zrs <| And.intro @ztP <| And.intro @zlT <| And.intro @zpo <| And.intro @zr7 <| And.intro @zEF <| And.intro @zA1 <| And.intro @zEG <| And.intro @zr1 <| And.intro @zpl <| And.intro @zIH <| And.intro @zDl <| And.intro @zr0 <| And.intro @zpk <| And.intro @zn7 <| And.intro @zEE <| And.intro @zDp <| And.intro @ztT <| And.intro @zsC <| And.intro @zwS <| And.intro @ztY <| And.intro @zDk <| And.intro @zsA <| And.intro @zpP <| And.intro @zDo <| And.intro @zus <| And.intro @zur <| And.intro @zpN <| And.intro @zDm <| And.intro @zpO <| And.intro @zv5 <| And.intro @zss <| And.intro @zEH <| And.intro @zn8 <| And.intro @zDn <| And.intro @zII <| And.intro @zED <| And.intro @zIK <| And.intro @zIJ <| And.intro @zwa <| And.intro @zsO <| And.intro @zqN <| And.intro @pA <| And.intro @zuq <| And.intro @zv1 <| And.intro @zkv <| And.intro @OG <| And.intro @zAX <| And.intro @zAZ <| And.intro @zAY <| And.intro @zsy <| And.intro @zAW <| And.intro @zv2 <| And.intro @zq5 <| And.intro @zou <| And.intro @zv6 <| And.intro @zDq <| And.intro @zrc <| And.intro @zrb <| And.intro @zoX <| And.intro @zwF <| And.intro @zwE <| And.intro @zwD <| And.intro @zwC <| And.intro @zBI <| And.intro @zBU <| And.intro @zBK <| And.intro @zBP <| And.intro @zBO <| And.intro @zBN <| And.intro @zBM <| And.intro @zBL <| And.intro @zwJ <| And.intro @bB <| And.intro @ZX <| And.intro @kX <| And.intro @zsY <| And.intro @zwo <| @wrap_i64)
theorem syms:type_of% Bg.down:=Bg.down
theorem cJ (v:Value):∀ (h:Heap) (K:Value→Heap→Prop),aU (some v) h K=K v h:=fun _ _=>rfl
theorem lD (s:ByteArray) (h:Heap) (K:Value→Heap→Prop):aU (some (.string s)) h K=K (.string s) h:=rfl
theorem mn (n:Int) (h:Heap) (K:Value→Heap→Prop):aU (some (.int .i64 n)) h K=K (.int .i64 n) h:=rfl
theorem eg (i:Nat) (h:i < 9223372036854775807):IntKind.i64.wrap ((i:Int)+1)=((i+1:Nat):Int):=by rw [wrap_i64 (by omega) (by omega)];omega
end Go.Am
