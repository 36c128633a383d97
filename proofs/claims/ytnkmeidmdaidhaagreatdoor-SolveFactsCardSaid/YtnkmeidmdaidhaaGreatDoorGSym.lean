/- Steps of the plain machine, for simp. No condition. -/
import Derived.Test.YtnkmeidmdaidhaaGreatDoorG2
set_option linter.unusedSimpArgs false
namespace Go.Am
variable {A k n o:Nat} {t:TypeId} {fn:Func}

def Heap.lay (h:Heap) (l:List aZ) (w:Nat):Heap:={ l.foldl Heap.push h with low:=w }

theorem P0 (l:List aZ):∀ h:Heap,(l.foldl Heap.push h).size=h.size+l.length:=by
 induction l with
 |nil=>intro h;rfl
 |cons b l ih=>intro h;rw [uL,ih,Heap.size_push,ek];omega
theorem zly (h:Heap) (w A:Nat):Heap.get { h with low:=w } A=h.get A:=rfl
theorem zoK (l:List aZ):∀ (h:Heap) (A:Nat),(l.foldl Heap.push h).get A=if h.size<=A then l[A - h.size]? else h.get A:=by
 induction l with
 |nil =>
  intro h A
  simp only [List.foldl_nil]
  split
  .rename_i hA
   simp only [Heap.get,List.getElem?_nil]
   rw [az (by omega)]
  .rfl
 |cons b l ih =>
  intro h A
  rw [uL,ih,Heap.size_push,Heap.bA]
  by_cases h1:h.size+1<=A
  .rw [aD h1,aD (by omega),show A - h.size=(A - (h.size+1))+1 by omega,List.getElem?_cons_succ]
  .rw [az h1]
   by_cases h2:A=h.size
   .rw [aD h2,aD (by omega),h2,tp,C7]
   .rw [az h2,az (by omega)]

section
variable (h:Heap) (l:List aZ) (w:Nat)
theorem bh:(h.lay l w).size=h.size+l.length:=P0 l h
theorem QB:(h.lay l w).low=w:=rfl
theorem zy2 (b:aZ):(h.lay l w).push b=h.lay (l++[b]) w:=by
 simp only [Heap.lay,List.foldl_append,uL,List.foldl_nil]
 rfl
theorem jG (i:Nat):(h.lay l w).get (h.size+i)=l[i]? := by
 unfold Heap.lay
 rw [zly,zoK,aD (by omega),show h.size+i - h.size=i by omega]
theorem sU (hA:A < h.size):(h.lay l w).get A=h.get A:=by
 unfold Heap.lay
 rw [zly,zoK,az (by omega)]
theorem aw:h=h.lay [] h.low:=rfl
theorem Nr (hw:min h.low h.size<=w):Ext h (h.lay l w):=⟨by rw [bh];omega,λA hA=>sU h l w hA,hw⟩
theorem Ext.at {h':Heap} (e:Ext (h.lay l w) h') (i:Nat) {b:aZ} (hi:l[i]? = some b):h'.get (h.size+i)=some b:=by
 have:i < l.length:=(fG.1 hi).1
 rw [e.get _ (by rw [bh];omega),jG,hi]
theorem Ext.under {h':Heap} (e:Ext (h.lay l w) h') (hw:min h.low h.size<=w):Ext h h':=(Nr h l w hw).trans e
end

section
variable {P:Program} {T:bJ} {ov:Ov}
section
variable (d:Option Tmp) (ty:TypeId) (pos:String) (af:Array Edge) (g:Option (Nat × Bool)) (e:Env) (h:Heap) (K:aJ)
def aK (r:Option ai) (h:Heap) (K:aJ):Prop:=match r with
 |some v=>K v h
 |none=>False
theorem zDg (x:Operand):cv P T ov ⟨d,.move x,ty,pos,af,g⟩ e h K=K (bz e x) h:=rfl
theorem zz3 (x:Operand):cv P T ov ⟨d,.assign x,ty,pos,af,g⟩ e h K=K (bz e x) h:=rfl
def W5 (c a b:ai):Option ai:=match c with | .bool t=>some (if t then a else b)|_=>none
theorem zuP (a b:ai):W5 (.bool true) a b=some a:=rfl
theorem zrk (a b:ai):W5 (.bool false) a b=some b:=rfl
theorem yP (r:Option ai):dv (r.map λv=>(v,h)) K=aK r h K:=by cases r <;> rfl
theorem zDh (c a b:Operand):cv P T ov ⟨d,.pick c a b,ty,pos,af,g⟩ e h K=aK (W5 (bz e c) (bz e a) (bz e b)) h K:=by
 show dv (zEg (bz e c) (bz e a) (bz e b) h) K=_
 cases bz e c <;> rfl
theorem zCb (t:TypeId) {b:Nat} {z:List ai} (hz:T.info t=some (n,b,z)):cv P T ov ⟨d,.alloc t,ty,pos,af,g⟩ e h K=K (.pointer (some ⟨h.size,0,none⟩)) (h.push (.row z t false)):=by
 show dv ((T.info t).map λ(_,_,z)=>newRow t z h) K=_
 rw [hz];rfl
theorem zEp (t:TypeId) (x:Operand):cv P T ov ⟨d,.box t x,ty,pos,af,g⟩ e h K=K (.pointer (some ⟨h.size,0,none⟩)) (h.push (.row (bz e x).cells.toList t false)):=rfl
def F9 (e:Env):List (Nat × Operand)->List (Nat × ai)
 | []=>[]
 |(i,x)::l=>(i,bz e x)::F9 e l
theorem zpo (l:List (Nat × Operand)):l.map (λ(i,x)=>(i,bz e x))=F9 e l:=by
 induction l with
 |nil=>rfl
 |cons a l ih=>rw [qO,ih];rfl
theorem zuO:F9 e []=[]:=rfl
theorem zrj (i:Nat) (x:Operand) (l:List (Nat × Operand)):F9 e ((i,x)::l)=(i,bz e x)::F9 e l:=rfl
theorem zCd (t:TypeId) (ps:List (Nat × Operand)):cv P T ov ⟨d,.build t ⟨ps⟩,ty,pos,af,g⟩ e h K=aK (lL T t (F9 e ps)) h K:=by
 rw [<- yP,<- zpo];rfl
theorem zpT (t:TypeId) (n:Nat) (ps:List (Nat × Operand)):cv P T ov ⟨d,.buildSlice t n ⟨ps⟩,ty,pos,af,g⟩ e h K=dv (xM T t n (F9 e ps) h) K:=by
 rw [<- zpo];rfl
theorem zDf (t:TypeId) (x:Operand):cv P T ov ⟨d,.load t x,ty,pos,af,g⟩ e h K=aK (iz T t (bz e x) h) h K:=by rw [<- yP];rfl
def lG (r:Option Heap) (K:aJ):Prop:=match r with
 |some h=>K undef h
 |none=>False
theorem zw6:lG (some h) K=K undef h:=rfl
theorem zCi (t:TypeId) (x y:Operand):cv P T ov ⟨d,.store t x y,ty,pos,af,g⟩ e h K=lG (i7 T t (bz e x) (bz e y) h) K:=by
 show dv ((i7 T t (bz e x) (bz e y) h).map λh'=>(undef,h')) K=_
 cases i7 T t (bz e x) (bz e y) h <;> rfl
def Fk (v:ai):Option ai:=match v with
 | .pointer (some a)=>some (.pointer (some a))
 | .func (.func f) a b=>some (.func (.func f) a b)
 | .iface t a=>some (.iface t a)
 |_=>none
theorem zy7 (a:Addr):Fk (.pointer (some a))=some (.pointer (some a)):=rfl
theorem zw8 (f:FuncId) (a b:Array ai):Fk (.func (.func f) a b)=some (.func (.func f) a b):=rfl
theorem zvt (x:Operand):cv P T ov ⟨d,.nilCheck x,ty,pos,af,g⟩ e h K=aK (Fk (bz e x)) h K:=by
 show dv (Wk (bz e x) h) K=_
 generalize bz e x=v
 cases v <;> try rfl
 .rename_i p;cases p <;> rfl
 .rename_i f a b;cases f <;> rfl
theorem zCc (op:BinOp) (t:TypeId) (x y:Operand) (yt:TypeId):cv P T ov ⟨d,.binOp op t x y yt,ty,pos,af,g⟩ e h K=aK (cA P T op t (bz e x) (bz e y)) h K:=by rw [<- yP];rfl
theorem zvs (f:FuncId) (fi ca:List Operand):cv P T ov ⟨d,.makeFunc (.func f) ⟨fi⟩ ⟨ca⟩,ty,pos,af,g⟩ e h K=K (.func (.func f) ⟨BD e fi⟩ ⟨BD e ca⟩) h:=by
 rw [<- Qi,<- Qi]
 show K (.func (.func f) (Array.map (bz e) ⟨fi⟩) (Array.map (bz e) ⟨ca⟩)) h=_
 congr 2 <;> simp
theorem zrT (t:TypeId) (l c:Operand):cv P T ov ⟨d,.makeSlice t l c,ty,pos,af,g⟩ e h K=dv (MW T t (bz e l) (bz e c) h) K:=rfl
def xy (e:Env):Option Operand->Option ai
 |some x=>some (bz e x)
 |none=>none
theorem zxy (x:Operand):xy e (some x)=some (bz e x):=rfl
theorem zxx:xy e none=none:=rfl
theorem zCh (t:TypeId) (x:Operand) (l hi m:Option Operand):cv P T ov ⟨d,.slice t x l hi m,ty,pos,af,g⟩ e h K=aK (lN T t (bz e x) (xy e l) (xy e hi) (xy e m)) h K:=by
 rw [<- yP];cases l <;> cases hi <;> cases m <;> rfl
theorem zrR (s:TypeId) (x:Operand) (f:Nat):cv P T ov ⟨d,.fieldAddr s x f,ty,pos,af,g⟩ e h K=aK (lK T s (bz e x) f) h K:=by rw [<- yP];rfl
theorem zCf (s:TypeId) (x:Operand) (f:Nat):cv P T ov ⟨d,.field s x f,ty,pos,af,g⟩ e h K=aK (QR T s (bz e x) f) h K:=by rw [<- yP];rfl
theorem zrS (t:TypeId) (x i:Operand):cv P T ov ⟨d,.indexAddr t x i,ty,pos,af,g⟩ e h K=aK (kC T t (bz e x) (bz e i)) h K:=by rw [<- yP];rfl
def Fq (v:ai) (i:Nat):Option ai:=match v with | .tuple vs=>vs[i]?|_=>none
theorem zvk (vs:List ai) (i:Nat):Fq (.tuple ⟨vs⟩) i=vs[i]? := by simp [Fq]
theorem zyg (t:Operand) (i:Nat):cv P T ov ⟨d,.extract t i,ty,pos,af,g⟩ e h K=aK (Fq (bz e t) i) h K:=by
 rw [<- yP]
 show dv (WM (bz e t) i h) K=_
 cases bz e t <;> rfl
theorem zDi (op:UnOp) (t:TypeId) (x:Operand):cv P T ov ⟨d,.unOp op t x,ty,pos,af,g⟩ e h K=dv (gP P e ⟨d,.unOp op t x,ty,pos,af,g⟩ h) K:=rfl
theorem zpU (s t:TypeId) (x:Operand) (h1:sZ T s=false) (h2:sZ T t=false):cv P T ov ⟨d,.convert s t x,ty,pos,af,g⟩ e h K=dv (gP P e ⟨d,.convert s t x,ty,pos,af,g⟩ h) K:=by
 show dv (if sZ T s then (Qj T s t (bz e x) h).map λr=>(r,h) else if sZ T t then (if Qr T s then HH T t (bz e x) h else none) else gP P e ⟨d,.convert s t x,ty,pos,af,g⟩ h) K=_
 rw [h1,h2]
 rfl
theorem zCg (t:TypeId) (x i:Operand):cv P T ov ⟨d,.index t x i,ty,pos,af,g⟩ e h K=dv (gP P e ⟨d,.index t x i,ty,pos,af,g⟩ h) K:=rfl
theorem zEq (t:TypeId) (x:Operand):cv P T ov ⟨d,.call ⟨.builtin .len,#[x],#[t]⟩,ty,pos,af,g⟩ e h K=aK (bQ T t (bz e x) h) h K:=by rw [<- yP];rfl
theorem jF (t u:TypeId) (s x:Operand) (hs:td T t u=true):cv P T ov ⟨d,.call ⟨.builtin .append,#[s,x],#[t,u]⟩,ty,pos,af,g⟩ e h K=dv (jT T t (bz e s) (bz e x) h) K:=by
 show dv (if td T t u then jT T t (bz e s) (bz e x) h else none) K=_
 rw [aD hs]
theorem zDe (t u:TypeId) (s x:Operand):cv P T ov ⟨d,.call ⟨.builtin .copy,#[s,x],#[t,u]⟩,ty,pos,af,g⟩ e h K=dv (Oc T t (bz e s) (bz e x) h) K:=rfl
theorem zEs (x y:Operand) (iq:Array TypeId):cv P T ov ⟨d,.call ⟨.builtin .min,#[x,y],iq⟩,ty,pos,af,g⟩ e h K=dv (gP P e ⟨d,.call ⟨.builtin .min,#[x,y],iq⟩,ty,pos,af,g⟩ h) K:=rfl
theorem zEr (x y:Operand) (iq:Array TypeId):cv P T ov ⟨d,.call ⟨.builtin .max,#[x,y],iq⟩,ty,pos,af,g⟩ e h K=dv (gP P e ⟨d,.call ⟨.builtin .max,#[x,y],iq⟩,ty,pos,af,g⟩ h) K:=rfl
end

def Dk:List Oper->Nat->Option Tmp
 | [],_=>none
 |o::_,0=>o.dst
 |_::l,n+1=>Dk l n
theorem zsk:∀ (l:List Oper) (j:Nat),(l[j]?).bind (·.dst)=Dk l j
 | [],j=>by simp [Dk]
 |o::l,0=>by simp [Dk]
 |o::l,j+1=>by rw [List.getElem?_cons_succ,zsk l j];rfl
theorem zt9 (o:Oper) (l:List Oper):Dk (o::l) 0=o.dst:=rfl
theorem zt8 (o:Oper) (l:List Oper) (n:Nat):Dk (o::l) (n+1)=Dk l n:=rfl
def zAr (t:Option Tmp) (e:Env) (b:Bool):Bool:=match t with|some t=>Bp (e.get t) b|none=>false
theorem zqP (t:Tmp) (e:Env) (b:Bool):zAr (some t) e b=Bp (e.get t) b:=rfl
theorem zCj (ops:List Oper) (d:Option Tmp) (op:Op) (ty:TypeId) (pos:String) (af:Array Edge) (e:Env) (j:Nat) (b:Bool):ma ⟨ops⟩ ⟨d,op,ty,pos,af,some (j,b)⟩ e=zAr (Dk ops j) e b:=by
 rw [<- zsk]
 simp only [ma,List.getElem?_toArray]
 cases (ops[j]?).bind (·.dst) <;> rfl
theorem zyZ:Bp (.bool true) true=true:=rfl
theorem zyW:Bp (.bool false) false=true:=rfl
theorem zyY:Bp (.bool true) false=false:=rfl
theorem zyX:Bp (.bool false) true=false:=rfl

def QX (b:Option aZ) (o:Nat):Option ai:=match b with
 |some (.row cs _ _)=>cs[o]?
 |_=>none
theorem zv4 (cs:List ai) (e:TypeId) (r:Bool) (o:Nat):QX (some (.row cs e r)) o=cs[o]? := rfl
def zD (b:Option aZ) (o n:Nat):Option ai:=match b with
 |some (.row cs _ _)=>(cut cs o n).map λl=>.agg l.toArray
 |_=>none
theorem zyG (cs:List ai) (e:TypeId) (r:Bool) (o n:Nat):zD (some (.row cs e r)) o n=(cut cs o n).map λl=>.agg l.toArray:=rfl
theorem rX {h:Heap} (hg:dA T t=some false):iz T t (.pointer (some ⟨A,o,none⟩)) h=QX (h.get A) o:=by
 simp only [iz,hg,dO,kY]
 cases h.get A with
 |none=>rfl
 |some b =>
  cases b with
  |dead=>rfl
  |map es c=>rfl
  |loop _ _ _ _ _ _=>rfl
  |row cs e r =>
   simp only [cut,QX,gX,if_false]
   split
   .rename_i hl
    simp [lq]
   .rename_i hl
    rw [H2 (by omega)];rfl
theorem FU {h:Heap} (hg:dA T t=some true) (hs:dJ T t=some n):iz T t (.pointer (some ⟨A,o,none⟩)) h=zD (h.get A) o n:=by
 simp only [iz,hg,hs,dO,kY,if_true]
 cases h.get A with
 |none=>rfl
 |some b=>cases b <;> rfl
theorem zy4 {s:aU} {h:Heap} (hd:T.desc t=some .string):bQ T t (.string s) h=some (.int .i64 s.size):=by simp [bQ,hd]
theorem Bj {e:TypeId} {a:Option Addr} {c:Nat} {h:Heap} (hd:T.desc t=some (.slice e)):bQ T t (.slice a n c) h=some (.int .i64 n):=by simp [bQ,hd]
theorem zwL {e:TypeId} {m:Nat} {ik:IntKind} {i:Int} (hd:T.desc t=some (.array m e)) (hs:dJ T e=some k) :
 kC T t (.pointer (some ⟨A,o,none⟩)) (.int ik i)=if 0<=i/\i < m then some (.pointer (some ⟨A,o+i.toNat*k,none⟩)) else none:=by simp [kC,hd,hs]
theorem Bi {e:TypeId} {c:Nat} {ik:IntKind} {i:Int} (hd:T.desc t=some (.slice e)) (hs:dJ T e=some k) :
 kC T t (.slice (some ⟨A,o,none⟩) n c) (.int ik i)=if 0<=i/\i < n then some (.pointer (some ⟨A,o+i.toNat*k,none⟩)) else none:=by simp [kC,hd,hs]
theorem BM {e:TypeId} {b:Nat} {z:List ai} (hd:T.desc t=some (.slice e)) (hi:T.info e=some (k,b,z)) (len:Nat) (parts:List (Nat × ai)) (h:Heap) :
 xM T t len parts h=if len*k > 16777216 || len > 16777216 then none else (pA (λi=>some (i*k,k)) (nN z len) parts).map λcs=>(.slice (some ⟨h.size,0,none⟩) len len,h.push (.row cs e false)):=by
 simp [xM,hd,hi]
theorem zwz (place:Nat->Option (Nat × Nat)) (cells:List ai):pA place cells []=some cells:=rfl
theorem zwA (cells:List ai) (i k:Nat) (v:ai) (rest:List (Nat × ai)) (h1:v.cells.size=k) (h2:i*k+k<=cells.length) :
 pA (λi=>some (i*k,k)) cells ((i,v)::rest)=pA (λi=>some (i*k,k)) (aI cells (i*k) v.cells.toList) rest:=by
 simp [pA,h1,h2]
theorem fZ {i:Int} (h1 : -9223372036854775808<=i) (h2:i < 9223372036854775808):IntKind.i64.wrap i=i:=by
 show (if (true && decide (i % (2 ^ 64:Int) >= (2 ^ 63:Int)))=true then i % (2 ^ 64:Int) - (2 ^ 64:Int) else i % (2 ^ 64:Int))=i
 by_cases hc:i % (2 ^ 64:Int) >= (2 ^ 63:Int)
 .rw [aD (by simpa using hc)];omega
 .rw [az (by simpa using hc)];omega

def uG (b:Bool) (h:Heap) (K:aJ):Prop:=(b=true->K (.bool true) h)/\(b=false->K (.bool false) h)
theorem zye (b:Bool) (h:Heap) (K:aJ):aK (some (.bool b)) h K=uG b h K:=by
 cases b <;> simp [aK,uG]
theorem zua (h:Heap) (K:aJ):uG true h K=K (.bool true) h:=by simp [uG]
theorem zqO (h:Heap) (K:aJ):uG false h K=K (.bool false) h:=by simp [uG]
theorem zti (k:IntKind) (i:Int) (h:Heap) (K:aJ):aK (some (.int k i)) h K=K (.int k i) h:=rfl
theorem zz1 (s:aU) (h:Heap) (K:aJ):aK (some (.string s)) h K=K (.string s) h:=rfl
theorem ztj (a:Option Addr) (h:Heap) (K:aJ):aK (some (.pointer a)) h K=K (.pointer a) h:=rfl
theorem zvr (a:Option Addr) (n c:Nat) (h:Heap) (K:aJ):aK (some (.slice a n c)) h K=K (.slice a n c) h:=rfl
theorem zzZ (cs:Array ai) (h:Heap) (K:aJ):aK (some (.agg cs)) h K=K (.agg cs) h:=rfl
theorem zyf (f:FuncId) (a b:Array ai) (h:Heap) (K:aJ):aK (some (.func (.func f) a b)) h K=K (.func (.func f) a b) h:=rfl

theorem cv.one {o:Oper} {e:Env} {h:Heap} {K:aJ} (hw:cv P T ov o e h K):∃ v h',K v h'/\∀ K':aJ,K' v h'->cv P T ov o e h K':=by
 unfold cv at hw
 split at hw
 .rename_i f args iq aQ
  split at hw
  .rename_i g fi ca hf
   obtain ⟨n,v,h',h1,h2⟩:=hw
   refine ⟨v,h',h2,λK' hk=>?_⟩
   unfold cv
   simp only [aQ,hf]
   exact ⟨n,v,h',h1,hk⟩
  .rename_i A fi ca hf
   obtain ⟨hc,n,v,h',h1,h2⟩:=hw
   refine ⟨v,h',h2,λK' hk=>?_⟩
   unfold cv
   simp only [aQ,hf]
   exact ⟨hc,n,v,h',h1,hk⟩
  .exact hw.elim
 .rename_i r name args iq aQ
  split at hw
  .rename_i t x hr
   split at hw
   .rename_i f y hm
    obtain ⟨n,v,h',h1,h2⟩:=hw
    refine ⟨v,h',h2,λK' hk=>?_⟩
    unfold cv
    simp only [aQ,hr,hm]
    exact ⟨n,v,h',h1,hk⟩
   .exact hw.elim
  .exact hw.elim
 .rename_i jO Ez
  unfold dv at hw
  split at hw
  .rename_i v h' h1
   refine ⟨v,h',hw,λK' hk=>?_⟩
   unfold cv
   split
   .rename_i f args iq aQ;exact (jO f args iq aQ).elim
   .rename_i r name args iq aQ;exact (Ez r name args iq aQ).elim
   .rw [h1];exact hk
  .exact hw.elim
theorem di.one {ops:Array Oper}:∀ (l:List Oper) (e:Env) (h:Heap) (Q:Env->Heap->Prop),di P T ov ops l e h Q->∃ e' h',Q e' h'/\∀ Q':Env->Heap->Prop,Q' e' h'->di P T ov ops l e h Q'
 | [],e,h,Q,hw=>⟨e,h,hw,λ_ hq=>hq⟩
 |o::l,e,h,Q,hw=>by
  simp only [di,pR] at hw ⊢
  split at hw
  .rename_i fT
   obtain ⟨v,h1,h2,h3⟩:=cv.one hw
   obtain ⟨e',h',h4,h5⟩:=di.one l _ _ _ h2
   exact ⟨e',h',h4,λQ' hq=>by rw [aD fT];exact h3 _ (h5 Q' hq)⟩
  .rename_i fT
   obtain ⟨e',h',h4,h5⟩:=di.one l _ _ _ hw
   exact ⟨e',h',h4,λQ' hq=>by rw [az fT];exact h5 Q' hq⟩
theorem bR.one {ops:Array Oper}:∀ (l:List Oper) (ks:List Nat) (e:Env) (h:Heap) (Q:List Nat->Env->Heap->Prop),bR P T ov ops l ks e h Q->∃ dp e' h',Q dp e' h'/\∀ Q':List Nat->Env->Heap->Prop,Q' dp e' h'->bR P T ov ops l ks e h Q'
 | [],ks,e,h,Q,hw=>⟨ks,e,h,hw,λ_ hq=>hq⟩
 |o::l,ks,e,h,Q,hw=>by
  simp only [bR,pR] at hw ⊢
  split at hw
  .rename_i fT
   obtain ⟨v,h1,h2,h3⟩:=cv.one hw
   obtain ⟨dp,e',h',h4,h5⟩:=bR.one l _ _ _ _ h2
   exact ⟨dp,e',h',h4,λQ' hq=>by rw [aD fT];exact h3 _ (h5 Q' hq)⟩
  .rename_i fT
   obtain ⟨dp,e',h',h4,h5⟩:=bR.one l _ _ _ _ hw
   exact ⟨dp,e',h',h4,λQ' hq=>by rw [az fT];exact h5 Q' hq⟩
def NX (P:Program) (T:bJ) (ov:Ov) (rd:Option Nat) (c:Code) (Q:Ex->Env->Heap->Prop):Ex->Env->Heap->Prop
 | .normal,e',h'=>W P T ov rd (.loop c) e' h' Q
 | .exit i,e',h'=>Q (.exit i) e' h'
 | .ret,e',h'=>Q .ret e' h'
section
variable {rd:Option Nat}
theorem W.one:∀ (c:Code) (e:Env) (h:Heap) (Q:Ex->Env->Heap->Prop),W P T ov rd c e h Q->∃ x e' h',Q x e' h'/\∀ Q':Ex->Env->Heap->Prop,Q' x e' h'->W P T ov rd c e h Q':=by
 intro c
 induction c with
 |skip=>intro e h Q hw;exact ⟨_,_,_,hw,λ_ hq=>hq⟩
 |region id ops d =>
  intro e h Q hw
  cases d with
  |false =>
   obtain ⟨e',h',h1,h2⟩:=di.one _ _ _ _ hw
   exact ⟨_,e',h',h1,λQ' hq=>h2 _ hq⟩
  |true =>
   obtain ⟨ks,e',h',h1,h2⟩:=bR.one _ _ _ _ _ hw
   exact ⟨_,e',h',h1.2,λQ' hq=>h2 _ ⟨h1.1,hq⟩⟩
 |seq a b jv jw =>
  intro e h Q hw
  simp only [W] at hw ⊢
  obtain ⟨x,e1,h1,h2,h3⟩:=jv _ _ _ hw
  cases x with
  |normal =>
   obtain ⟨x,e2,h4,h5,h6⟩:=jw _ _ _ h2
   exact ⟨x,e2,h4,h5,λQ' hq=>h3 _ (h6 Q' hq)⟩
  |exit id=>exact ⟨_,e1,h1,h2,λQ' hq=>h3 _ hq⟩
  |ret=>exact ⟨_,e1,h1,h2,λQ' hq=>h3 _ hq⟩
 |cond c a b jv jw =>
  intro e h Q hw
  simp only [W,Gm] at hw ⊢
  split at hw
  .rename_i t ht
   cases t with
   |true =>
    obtain ⟨x,e1,h1,h2,h3⟩:=jv _ _ _ (hw.1 rfl)
    exact ⟨x,e1,h1,h2,λQ' hq=>⟨λ_=>h3 Q' hq,λhh=>nomatch hh⟩⟩
   |false =>
    obtain ⟨x,e1,h1,h2,h3⟩:=jw _ _ _ (hw.2 rfl)
    exact ⟨x,e1,h1,h2,λQ' hq=>⟨λhh=>(nomatch hh),λ_=>h3 Q' hq⟩⟩
  .exact hw.elim
 |block id c ih =>
  intro e h Q hw
  simp only [W] at hw ⊢
  obtain ⟨x,e1,h1,h2,h3⟩:=ih _ _ _ hw
  cases x with
  |normal=>exact ⟨.normal,e1,h1,h2,λQ' hq=>h3 _ hq⟩
  |exit i =>
   by_cases hi:i=id
   .simp only [aD hi] at h2
    exact ⟨.normal,e1,h1,h2,λQ' hq=>h3 _ (by simp only [aD hi];exact hq)⟩
   .simp only [az hi] at h2
    exact ⟨.exit i,e1,h1,h2,λQ' hq=>h3 _ (by simp only [az hi];exact hq)⟩
  |ret=>exact ⟨.ret,e1,h1,h2,λQ' hq=>h3 _ hq⟩
 |loop c ih =>
  intro e h Q hw
  simp only [W] at hw ⊢
  obtain ⟨n,hw⟩:=hw
  induction n generalizing e h with
  |zero=>exact hw.elim
  |succ n V7 =>
   simp only [dX] at hw
   obtain ⟨x,e1,h1,h2,h3⟩:=ih _ _ _ hw
   cases x with
   |normal =>
    obtain ⟨x,e2,h4,h5,h6⟩:=V7 _ _ h2
    refine ⟨x,e2,h4,h5,λQ' hq=>?_⟩
    obtain ⟨m,hm⟩:=h6 Q' hq
    exact ⟨m+1,by simp only [dX];exact h3 _ hm⟩
   |exit id=>exact ⟨.exit id,e1,h1,h2,λQ' hq=>⟨1,by simp only [dX];exact h3 _ hq⟩⟩
   |ret=>exact ⟨.ret,e1,h1,h2,λQ' hq=>⟨1,by simp only [dX];exact h3 _ hq⟩⟩
 |exit id=>intro e h Q hw;exact ⟨_,_,_,hw,λ_ hq=>hq⟩
 |ret=>intro e h Q hw;exact ⟨_,_,_,hw,λ_ hq=>hq⟩
 |label l=>intro e h Q hw;exact ⟨_,_,_,hw,λ_ hq=>hq⟩
 |rangeFunc g ps a b _ _ =>
  intro e h Q hw
  simp only [W,H8] at hw
  split at hw
  .rename_i f fi ca hg
   obtain ⟨hc,n,v,h1,h2,h3⟩:=hw
   unfold NY at h3
   split at h3
   .rename_i x e' h' h4
    refine ⟨x,e',h',h3,λQ' hq=>?_⟩
    simp only [W,H8,hg]
    exact ⟨hc,n,v,h1,h2,by show NY (Hx h.size e h1) Q';rw [h4];exact hq⟩
   .exact h3.elim
  .exact hw.elim
 |scope c ih=>intro e h Q hw;exact ih _ _ _ hw
 |goto l=>intro e h Q hw;exact hw.elim
 |refuse s=>intro e h Q hw;exact hw.elim
theorem Nd {c:Code} {e:Env} {h:Heap} {Q:Ex->Env->Heap->Prop} (hw:W P T ov rd c e h (NX P T ov rd c Q)):W P T ov rd (.loop c) e h Q:=by
 obtain ⟨x,e1,h1,h2,h3⟩:=W.one _ _ _ _ hw
 simp only [W]
 cases x with
 |normal =>
  simp only [NX,W] at h2
  obtain ⟨n,hn⟩:=h2
  exact ⟨n+1,by simp only [dX];exact h3 _ hn⟩
 |exit id=>exact ⟨1,by simp only [dX];exact h3 _ h2⟩
 |ret=>exact ⟨1,by simp only [dX];exact h3 _ h2⟩
theorem zm8 (c:Code) (Q:Ex->Env->Heap->Prop) (e:Env) (h:Heap):NX P T ov rd c Q .normal e h=W P T ov rd (.loop c) e h Q:=rfl
theorem zro (c:Code) (Q:Ex->Env->Heap->Prop) (i:Nat) (e:Env) (h:Heap):NX P T ov rd c Q (.exit i) e h=Q (.exit i) e h:=rfl
theorem zuX (c:Code) (Q:Ex->Env->Heap->Prop) (e:Env) (h:Heap):NX P T ov rd c Q .ret e h=Q .ret e h:=rfl
end
theorem cz {t:Tmp} {K:aJ} {e:Env} {h:Heap} (hr:fn.results=#[.tmp t]):eI T fn K .ret e h=K (e.get t) h:=by
 simp [eI,nI,hr,uy]
theorem HJ {t:Tmp} {y:TypeId} {K:aJ} {e:Env} {h:Heap} (hr:fn.results=#[.cell t y]):eI T fn K .ret e h=aK (iz T y (e.get t) h) h K:=by
 simp only [eI,nI,hr,uy,aK]
 cases iz T y (e.get t) h <;> simp
theorem C0 {t u:Tmp} {K:aJ} {e:Env} {h:Heap} (hr:fn.results=#[.tmp t,.tmp u]):eI T fn K .ret e h=K (.tuple #[e.get t,e.get u]) h:=by
 simp [eI,nI,hr,uy]
end
noncomputable def CG:=PLift.up (And.intro @zyq <| And.intro @znX <| And.intro @zvb <| And.intro @zrB <| And.intro @zyn <| And.intro @zCq <| And.intro @zys <| And.intro @zxa <| And.intro @zCp <| And.intro @zvI <| And.intro @zCm <| And.intro @zCn <| And.intro @zDl <| And.intro @zAJ <| And.intro @zpM <| And.intro @zvi <| And.intro @zx5 <| And.intro @zmp <| And.intro @zqt <| And.intro @ztO <| And.intro @zuu <| And.intro @zw0 <| And.intro @zm8 <| And.intro @zro <| And.intro @zuX <| And.intro @zDg <| And.intro @zz3 <| And.intro @zDh <| And.intro @zuP <| And.intro @zrk <| And.intro @zEp <| And.intro @zCd <| And.intro @zuO <| And.intro @zrj <| And.intro @zpT <| And.intro @zDf <| And.intro @zCi <| And.intro @zw6 <| And.intro @zvt <| And.intro @zy7 <| And.intro @zw8 <| And.intro @zCc <| And.intro @zvs <| And.intro @zrT <| And.intro @zCh <| And.intro @zxy <| And.intro @zxx <| And.intro @zrR <| And.intro @zCf <| And.intro @zrS <| And.intro @zyg <| And.intro @zvk <| And.intro @zDi <| And.intro @zpU <| And.intro @zCg <| And.intro @zEq <| And.intro @zDe <| And.intro @zEs <| And.intro @zEr <| And.intro @zyo <| And.intro @zvP <| And.intro @ztF <| And.intro @yJ <| And.intro @zxw <| And.intro @zye <| And.intro @zua <| And.intro @zqO <| And.intro @zti <| And.intro @zz1 <| And.intro @ztj <| And.intro @zvr <| And.intro @zzZ <| And.intro @zyf <| And.intro @zt3 <| And.intro @zqB <| And.intro @zyi <| And.intro @zCj <| And.intro @zt9 <| And.intro @zt8 <| And.intro @zqP <| And.intro @zyZ <| And.intro @zyY <| And.intro @zyX <| And.intro @zyW <| And.intro @zAN <| And.intro @zAW <| And.intro @zAO <| And.intro @zAT <| And.intro @zAS <| And.intro @zAR <| And.intro @zAQ <| And.intro @zAP <| And.intro @zy2 <| And.intro @bh <| And.intro @QB <| And.intro @jG <| And.intro @zv4 <| And.intro @zyG <| @fZ)
theorem syms:type_of% CG.down:=CG.down
theorem zEt (v:Value):∀ (h:Heap) (K:Value->Heap->Prop),aK (some v) h K=K v h:=λ_ _=>rfl
theorem amG (s:ByteArray) (h:Heap) (K:Value->Heap->Prop):aK (some (.string s)) h K=K (.string s) h:=rfl
theorem amF (n:Int) (h:Heap) (K:Value->Heap->Prop):aK (some (.int .i64 n)) h K=K (.int .i64 n) h:=rfl
theorem eE (i:Nat) (h:i < 9223372036854775807):IntKind.i64.wrap ((i:Int)+1)=((i+1:Nat):Int):=by rw [fZ (by omega) (by omega)];omega
end Go.Am
