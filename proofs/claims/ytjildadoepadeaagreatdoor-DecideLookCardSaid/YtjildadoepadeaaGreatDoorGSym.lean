/- Steps of the plain machine, for simp. No condition. -/
import Derived.Test.YtjildadoepadeaaGreatDoorG2
set_option linter.unusedSimpArgs false
namespace Go.Am
variable {A k n o:Nat} {t:TypeId} {fn:Func}

def Heap.lay (h:Heap) (l:List bd) (w:Nat):Heap:={ l.foldl Heap.push h with low:=w }

theorem HN (l:List bd):∀ h:Heap,(l.foldl Heap.push h).size=h.size+l.length:=by
 induction l with
 |nil=>intro h;rfl
 |cons b l ih=>intro h;rw [pL,ih,Heap.size_push,nW];omega
theorem Sx (h:Heap) (w A:Nat):Heap.get { h with low:=w } A=h.get A:=rfl
theorem Tc (l:List bd):∀ (h:Heap) (A:Nat),(l.foldl Heap.push h).get A=if h.size<=A then l[A - h.size]? else h.get A:=by
 induction l with
 |nil =>
  intro h A
  simp only [List.foldl_nil]
  split
  .rename_i hA
   simp only [Heap.get,List.getElem?_nil]
   rw [ay (by omega)]
  .rfl
 |cons b l ih =>
  intro h A
  rw [pL,ih,Heap.size_push,Heap.bX]
  by_cases h1:h.size+1<=A
  .rw [aC h1,aC (by omega),show A - h.size=(A - (h.size+1))+1 by omega,List.getElem?_cons_succ]
  .rw [ay h1]
   by_cases h2:A=h.size
   .rw [aC h2,aC (by omega),h2,Nat.sub_self,zza]
   .rw [ay h2,ay (by omega)]

section
variable (h:Heap) (l:List bd) (w:Nat)
theorem cF:(h.lay l w).size=h.size+l.length:=HN l h
theorem Iw:(h.lay l w).low=w:=rfl
theorem ztW (b:bd):(h.lay l w).push b=h.lay (l++[b]) w:=by
 simp only [Heap.lay,List.foldl_append,pL,List.foldl_nil]
 rfl
theorem iL (i:Nat):(h.lay l w).get (h.size+i)=l[i]? := by
 unfold Heap.lay
 rw [Sx,Tc,aC (by omega),show h.size+i - h.size=i by omega]
theorem uz (hA:A < h.size):(h.lay l w).get A=h.get A:=by
 unfold Heap.lay
 rw [Sx,Tc,ay (by omega)]
theorem ak:h=h.lay [] h.low:=rfl
theorem NY (hw:min h.low h.size<=w):Ext h (h.lay l w):=⟨by rw [cF];omega,λA hA=>uz h l w hA,hw⟩
theorem Ext.at {h':Heap} (e:Ext (h.lay l w) h') (i:Nat) {b:bd} (hi:l[i]? = some b):h'.get (h.size+i)=some b:=by
 have:i < l.length:=(fB.1 hi).1
 rw [e.get _ (by rw [cF];omega),iL,hi]
end

section
variable {P:Program} {T:bm} {ov:Ov}
section
variable (d:Option Tmp) (ty:TypeId) (pos:String) (af:Array Edge) (g:Option (Nat × Bool)) (e:Env) (h:Heap) (K:aF)
def aE (r:Option ai) (h:Heap) (K:aF):Prop:=match r with
 |some v=>K v h
 |none=>False
theorem zxv (x:Operand):bL P T ov ⟨d,.move x,ty,pos,af,g⟩ e h K=K (aX e x) h:=rfl
theorem zuP (x:Operand):bL P T ov ⟨d,.assign x,ty,pos,af,g⟩ e h K=K (aX e x) h:=rfl
def OP (c a b:ai):Option ai:=match c with | .bool t=>some (if t then a else b)|_=>none
theorem zqD (a b:ai):OP (.bool true) a b=some a:=rfl
theorem Zz (a b:ai):OP (.bool false) a b=some b:=rfl
theorem sY (r:Option ai):cK (r.map λv=>(v,h)) K=aE r h K:=by cases r <;> rfl
theorem zxw (c a b:Operand):bL P T ov ⟨d,.pick c a b,ty,pos,af,g⟩ e h K=aE (OP (aX e c) (aX e a) (aX e b)) h K:=by
 show cK (zyW (aX e c) (aX e a) (aX e b) h) K=_
 cases aX e c <;> rfl
theorem zwD (t:TypeId) {b:Nat} {z:List ai} (hz:T.info t=some (n,b,z)):bL P T ov ⟨d,.alloc t,ty,pos,af,g⟩ e h K=K (.pointer (some ⟨h.size,0,none⟩)) (h.push (.row z t false)):=by
 show cK ((T.info t).map λ(_,_,z)=>newRow t z h) K=_
 rw [hz];rfl
theorem zy4 (t:TypeId) (x:Operand):bL P T ov ⟨d,.box t x,ty,pos,af,g⟩ e h K=K (.pointer (some ⟨h.size,0,none⟩)) (h.push (.row (aX e x).cells.toList t false)):=rfl
def zi (e:Env):List (Nat × Operand)->List (Nat × ai)
 | []=>[]
 |(i,x)::l=>(i,aX e x)::zi e l
theorem TE (l:List (Nat × Operand)):l.map (λ(i,x)=>(i,aX e x))=zi e l:=by
 induction l with
 |nil=>rfl
 |cons a l ih=>rw [zzs,ih];rfl
theorem zqC:zi e []=[]:=rfl
theorem Zy (i:Nat) (x:Operand) (l:List (Nat × Operand)):zi e ((i,x)::l)=(i,aX e x)::zi e l:=rfl
theorem zwF (t:TypeId) (ps:List (Nat × Operand)):bL P T ov ⟨d,.build t ⟨ps⟩,ty,pos,af,g⟩ e h K=aE (mJ T t (zi e ps)) h K:=by
 rw [<- sY,<- TE];rfl
theorem Zg (t:TypeId) (n:Nat) (ps:List (Nat × Operand)):bL P T ov ⟨d,.buildSlice t n ⟨ps⟩,ty,pos,af,g⟩ e h K=cK (rX T t n (zi e ps) h) K:=by
 rw [<- TE];rfl
theorem zxu (t:TypeId) (x:Operand):bL P T ov ⟨d,.load t x,ty,pos,af,g⟩ e h K=aE (eQ T t (aX e x) h) h K:=by rw [<- sY];rfl
def lr (r:Option Heap) (K:aF):Prop:=match r with
 |some h=>K undef h
 |none=>False
theorem zsl:lr (some h) K=K undef h:=rfl
theorem zwK (t:TypeId) (x y:Operand):bL P T ov ⟨d,.store t x y,ty,pos,af,g⟩ e h K=lr (gm T t (aX e x) (aX e y) h) K:=by
 show cK ((gm T t (aX e x) (aX e y) h).map λh'=>(undef,h')) K=_
 cases gm T t (aX e x) (aX e y) h <;> rfl
def yD (v:ai):Option ai:=match v with
 | .pointer (some a)=>some (.pointer (some a))
 | .func (.func f) a b=>some (.func (.func f) a b)
 | .iface t a=>some (.iface t a)
 |_=>none
theorem zt1 (a:Addr):yD (.pointer (some a))=some (.pointer (some a)):=rfl
theorem zsn (f:FuncId) (a b:Array ai):yD (.func (.func f) a b)=some (.func (.func f) a b):=rfl
theorem zrb (x:Operand):bL P T ov ⟨d,.nilCheck x,ty,pos,af,g⟩ e h K=aE (yD (aX e x)) h K:=by
 show cK (Ml (aX e x) h) K=_
 generalize aX e x=v
 cases v <;> try rfl
 .rename_i p;cases p <;> rfl
 .rename_i f a b;cases f <;> rfl
theorem zwE (op:BinOp) (t:TypeId) (x y:Operand) (yt:TypeId):bL P T ov ⟨d,.binOp op t x y yt,ty,pos,af,g⟩ e h K=aE (bD P T op t (aX e x) (aX e y)) h K:=by rw [<- sY];rfl
theorem zra (f:FuncId) (fi ca:List Operand):bL P T ov ⟨d,.makeFunc (.func f) ⟨fi⟩ ⟨ca⟩,ty,pos,af,g⟩ e h K=K (.func (.func f) ⟨uL e fi⟩ ⟨uL e ca⟩) h:=by
 rw [<- H9,<- H9]
 show K (.func (.func f) (Array.map (aX e) ⟨fi⟩) (Array.map (aX e) ⟨ca⟩)) h=_
 congr 2 <;> simp
theorem zoq (t:TypeId) (l c:Operand):bL P T ov ⟨d,.makeSlice t l c,ty,pos,af,g⟩ e h K=cK (F2 T t (aX e l) (aX e c) h) K:=rfl
def rT (e:Env):Option Operand->Option ai
 |some x=>some (aX e x)
 |none=>none
theorem zsN (x:Operand):rT e (some x)=some (aX e x):=rfl
theorem zsM:rT e none=none:=rfl
theorem zwJ (t:TypeId) (x:Operand) (l hi m:Option Operand):bL P T ov ⟨d,.slice t x l hi m,ty,pos,af,g⟩ e h K=aE (kn T t (aX e x) (rT e l) (rT e hi) (rT e m)) h K:=by
 rw [<- sY];cases l <;> cases hi <;> cases m <;> rfl
theorem zoo (s:TypeId) (x:Operand) (f:Nat):bL P T ov ⟨d,.fieldAddr s x f,ty,pos,af,g⟩ e h K=aE (gg T s (aX e x) f) h K:=by rw [<- sY];rfl
theorem zwH (s:TypeId) (x:Operand) (f:Nat):bL P T ov ⟨d,.field s x f,ty,pos,af,g⟩ e h K=aE (IP T s (aX e x) f) h K:=by rw [<- sY];rfl
theorem zop (t:TypeId) (x i:Operand):bL P T ov ⟨d,.indexAddr t x i,ty,pos,af,g⟩ e h K=aE (hZ T t (aX e x) (aX e i)) h K:=by rw [<- sY];rfl
def yL (v:ai) (i:Nat):Option ai:=match v with | .tuple vs=>vs[i]?|_=>none
theorem zq7 (vs:List ai) (i:Nat):yL (.tuple ⟨vs⟩) i=vs[i]? := by simp [yL]
theorem ztd (t:Operand) (i:Nat):bL P T ov ⟨d,.extract t i,ty,pos,af,g⟩ e h K=aE (yL (aX e t) i) h K:=by
 rw [<- sY]
 show cK (MD (aX e t) i h) K=_
 cases aX e t <;> rfl
theorem zxx (op:UnOp) (t:TypeId) (x:Operand):bL P T ov ⟨d,.unOp op t x,ty,pos,af,g⟩ e h K=cK (eP P e ⟨d,.unOp op t x,ty,pos,af,g⟩ h) K:=rfl
theorem Ty (s t:TypeId) (x:Operand) (h1:kP T s=false) (h2:kP T t=false):bL P T ov ⟨d,.convert s t x,ty,pos,af,g⟩ e h K=cK (eP P e ⟨d,.convert s t x,ty,pos,af,g⟩ h) K:=by
 show cK (if kP T s then (sX T s t (aX e x) h).map λr=>(r,h) else if kP T t then (if AG T s then vZ T t (aX e x) h else none) else eP P e ⟨d,.convert s t x,ty,pos,af,g⟩ h) K=_
 rw [h1,h2]
 rfl
theorem zwI (t:TypeId) (x i:Operand):bL P T ov ⟨d,.index t x i,ty,pos,af,g⟩ e h K=cK (eP P e ⟨d,.index t x i,ty,pos,af,g⟩ h) K:=rfl
theorem zy5 (t:TypeId) (x:Operand):bL P T ov ⟨d,.call ⟨.builtin .len,#[x],#[t]⟩,ty,pos,af,g⟩ e h K=aE (bE T t (aX e x) h) h K:=by rw [<- sY];rfl
theorem F7 (t u:TypeId) (s x:Operand) (hs:zl T t u=true):bL P T ov ⟨d,.call ⟨.builtin .append,#[s,x],#[t,u]⟩,ty,pos,af,g⟩ e h K=cK (lA T t (aX e s) (aX e x) h) K:=by
 show cK (if zl T t u then lA T t (aX e s) (aX e x) h else none) K=_
 rw [aC hs]
theorem zxt (t u:TypeId) (s x:Operand):bL P T ov ⟨d,.call ⟨.builtin .copy,#[s,x],#[t,u]⟩,ty,pos,af,g⟩ e h K=cK (GI T t (aX e s) (aX e x) h) K:=rfl
theorem zy7 (x y:Operand) (fc:Array TypeId):bL P T ov ⟨d,.call ⟨.builtin .min,#[x,y],fc⟩,ty,pos,af,g⟩ e h K=cK (eP P e ⟨d,.call ⟨.builtin .min,#[x,y],fc⟩,ty,pos,af,g⟩ h) K:=rfl
theorem zy6 (x y:Operand) (fc:Array TypeId):bL P T ov ⟨d,.call ⟨.builtin .max,#[x,y],fc⟩,ty,pos,af,g⟩ e h K=cK (eP P e ⟨d,.call ⟨.builtin .max,#[x,y],fc⟩,ty,pos,af,g⟩ h) K:=rfl
end

def wD:List Oper->Nat->Option Tmp
 | [],_=>none
 |o::_,0=>o.dst
 |_::l,n+1=>wD l n
theorem T1:∀ (l:List Oper) (j:Nat),(l[j]?).bind (·.dst)=wD l j
 | [],j=>by simp [wD]
 |o::l,0=>by simp [wD]
 |o::l,j+1=>by rw [List.getElem?_cons_succ,T1 l j];rfl
theorem zp1 (o:Oper) (l:List Oper):wD (o::l) 0=o.dst:=rfl
theorem zp0 (o:Oper) (l:List Oper) (n:Nat):wD (o::l) (n+1)=wD l n:=rfl
def Uw (t:Option Tmp) (e:Env) (b:Bool):Bool:=match t with|some t=>uI (e.get t) b|none=>false
theorem Z3 (t:Tmp) (e:Env) (b:Bool):Uw (some t) e b=uI (e.get t) b:=rfl
theorem zwL (ops:List Oper) (d:Option Tmp) (op:Op) (ty:TypeId) (pos:String) (af:Array Edge) (e:Env) (j:Nat) (b:Bool):jG ⟨ops⟩ ⟨d,op,ty,pos,af,some (j,b)⟩ e=Uw (wD ops j) e b:=by
 rw [<- T1]
 simp only [jG,List.getElem?_toArray]
 cases (ops[j]?).bind (·.dst) <;> rfl
theorem ztQ:uI (.bool true) true=true:=rfl
theorem ztN:uI (.bool false) false=true:=rfl
theorem ztP:uI (.bool true) false=false:=rfl
theorem ztO:uI (.bool false) true=false:=rfl

def I9 (b:Option bd) (o:Nat):Option ai:=match b with
 |some (.row cs _ _)=>cs[o]?
 |_=>none
theorem zrJ (cs:List ai) (e:TypeId) (r:Bool) (o:Nat):I9 (some (.row cs e r)) o=cs[o]? := rfl
def xf (b:Option bd) (o n:Nat):Option ai:=match b with
 |some (.row cs _ _)=>(cut cs o n).map λl=>.agg l.toArray
 |_=>none
theorem ztz (cs:List ai) (e:TypeId) (r:Bool) (o n:Nat):xf (some (.row cs e r)) o n=(cut cs o n).map λl=>.agg l.toArray:=rfl
theorem pA {h:Heap} (hg:cD T t=some false):eQ T t (.pointer (some ⟨A,o,none⟩)) h=I9 (h.get A) o:=by
 simp only [eQ,hg,cM,ia]
 cases h.get A with
 |none=>rfl
 |some b =>
  cases b with
  |dead=>rfl
  |map es c=>rfl
  |loop _ _ _ _ _ _=>rfl
  |row cs e r =>
   simp only [cut,I9,fb,if_false]
   split
   .rename_i hl
    simp [ja]
   .rename_i hl
    rw [wx (by omega)];rfl
theorem vY {h:Heap} (hg:cD T t=some true) (hs:c9 T t=some n):eQ T t (.pointer (some ⟨A,o,none⟩)) h=xf (h.get A) o n:=by
 simp only [eQ,hg,hs,cM,ia,if_true]
 cases h.get A with
 |none=>rfl
 |some b=>cases b <;> rfl
theorem ztX {s:aA} {h:Heap} (hd:T.desc t=some .string):bE T t (.string s) h=some (.int .i64 s.size):=by simp [bE,hd]
theorem r5 {e:TypeId} {a:Option Addr} {c:Nat} {h:Heap} (hd:T.desc t=some (.slice e)):bE T t (.slice a n c) h=some (.int .i64 n):=by simp [bE,hd]
theorem zwf {e:TypeId} {m:Nat} {ik:IntKind} {i:Int} (hd:T.desc t=some (.array m e)) (hs:c9 T e=some k) :
 hZ T t (.pointer (some ⟨A,o,none⟩)) (.int ik i)=if 0<=i/\i < m then some (.pointer (some ⟨A,o+i.toNat*k,none⟩)) else none:=by simp [hZ,hd,hs]
theorem sS {e:TypeId} {c:Nat} {ik:IntKind} {i:Int} (hd:T.desc t=some (.slice e)) (hs:c9 T e=some k) :
 hZ T t (.slice (some ⟨A,o,none⟩) n c) (.int ik i)=if 0<=i/\i < n then some (.pointer (some ⟨A,o+i.toNat*k,none⟩)) else none:=by simp [hZ,hd,hs]
theorem Cw {e:TypeId} {b:Nat} {z:List ai} (hd:T.desc t=some (.slice e)) (hi:T.info e=some (k,b,z)) (len:Nat) (parts:List (Nat × ai)) (h:Heap) :
 rX T t len parts h=if len*k > 16777216 || len > 16777216 then none else (pI (λi=>some (i*k,k)) (lC z len) parts).map λcs=>(.slice (some ⟨h.size,0,none⟩) len len,h.push (.row cs e false)):=by
 simp [rX,hd,hi]
theorem zr3 (place:Nat->Option (Nat × Nat)) (cells:List ai):pI place cells []=some cells:=rfl
theorem zr4 (cells:List ai) (i k:Nat) (v:ai) (rest:List (Nat × ai)) (h1:v.cells.size=k) (h2:i*k+k<=cells.length) :
 pI (λi=>some (i*k,k)) cells ((i,v)::rest)=pI (λi=>some (i*k,k)) (an cells (i*k) v.cells.toList) rest:=by
 simp [pI,h1,h2]
theorem wrap_i64 {i:Int} (h1 : -9223372036854775808<=i) (h2:i < 9223372036854775808):IntKind.i64.wrap i=i:=by
 show (if (true && decide (i % (2 ^ 64:Int) >= (2 ^ 63:Int)))=true then i % (2 ^ 64:Int) - (2 ^ 64:Int) else i % (2 ^ 64:Int))=i
 by_cases hc:i % (2 ^ 64:Int) >= (2 ^ 63:Int)
 .rw [aC (by simpa using hc)];omega
 .rw [ay (by simpa using hc)];omega

def pJ (b:Bool) (h:Heap) (K:aF):Prop:=(b=true->K (.bool true) h)/\(b=false->K (.bool false) h)
theorem zta (b:Bool) (h:Heap) (K:aF):aE (some (.bool b)) h K=pJ b h K:=by
 cases b <;> simp [aE,pJ]
theorem zp3 (h:Heap) (K:aF):pJ true h K=K (.bool true) h:=by simp [pJ]
theorem Z2 (h:Heap) (K:aF):pJ false h K=K (.bool false) h:=by simp [pJ]
theorem zuL (k:IntKind) (i:Int) (h:Heap) (K:aF):aE (some (.int k i)) h K=K (.int k i) h:=rfl
theorem zuN (s:aA) (h:Heap) (K:aF):aE (some (.string s)) h K=K (.string s) h:=rfl
theorem zuM (a:Option Addr) (h:Heap) (K:aF):aE (some (.pointer a)) h K=K (.pointer a) h:=rfl
theorem zq8 (a:Option Addr) (n c:Nat) (h:Heap) (K:aF):aE (some (.slice a n c)) h K=K (.slice a n c) h:=rfl
theorem zuK (cs:Array ai) (h:Heap) (K:aF):aE (some (.agg cs)) h K=K (.agg cs) h:=rfl
theorem ztb (f:FuncId) (a b:Array ai) (h:Heap) (K:aF):aE (some (.func (.func f) a b)) h K=K (.func (.func f) a b) h:=rfl

theorem bL.one {o:Oper} {e:Env} {h:Heap} {K:aF} (hw:bL P T ov o e h K):∃ v h',K v h'/\∀ K':aF,K' v h'->bL P T ov o e h K':=by
 unfold bL at hw
 split at hw
 .rename_i f args fc aG
  split at hw
  .rename_i g fi ca hf
   obtain ⟨n,v,h',h1,h2⟩:=hw
   refine ⟨v,h',h2,λK' hk=>?_⟩
   unfold bL
   simp only [aG,hf]
   exact ⟨n,v,h',h1,hk⟩
  .rename_i A fi ca hf
   obtain ⟨hc,n,v,h',h1,h2⟩:=hw
   refine ⟨v,h',h2,λK' hk=>?_⟩
   unfold bL
   simp only [aG,hf]
   exact ⟨hc,n,v,h',h1,hk⟩
  .exact hw.elim
 .rename_i r name args fc aG
  split at hw
  .rename_i t x hr
   split at hw
   .rename_i f y hm
    obtain ⟨n,v,h',h1,h2⟩:=hw
    refine ⟨v,h',h2,λK' hk=>?_⟩
    unfold bL
    simp only [aG,hr,hm]
    exact ⟨n,v,h',h1,hk⟩
   .exact hw.elim
  .exact hw.elim
 .rename_i iy LK
  unfold cK at hw
  split at hw
  .rename_i v h' h1
   refine ⟨v,h',hw,λK' hk=>?_⟩
   unfold bL
   split
   .rename_i f args fc aG;exact (iy f args fc aG).elim
   .rename_i r name args fc aG;exact (LK r name args fc aG).elim
   .rw [h1];exact hk
  .exact hw.elim
theorem cm.one {ops:Array Oper}:∀ (l:List Oper) (e:Env) (h:Heap) (Q:Env->Heap->Prop),cm P T ov ops l e h Q->∃ e' h',Q e' h'/\∀ Q':Env->Heap->Prop,Q' e' h'->cm P T ov ops l e h Q'
 | [],e,h,Q,hw=>⟨e,h,hw,λ_ hq=>hq⟩
 |o::l,e,h,Q,hw=>by
  simp only [cm,mW] at hw ⊢
  split at hw
  .rename_i eV
   obtain ⟨v,h1,h2,h3⟩:=bL.one hw
   obtain ⟨e',h',h4,h5⟩:=cm.one l _ _ _ h2
   exact ⟨e',h',h4,λQ' hq=>by rw [aC eV];exact h3 _ (h5 Q' hq)⟩
  .rename_i eV
   obtain ⟨e',h',h4,h5⟩:=cm.one l _ _ _ hw
   exact ⟨e',h',h4,λQ' hq=>by rw [ay eV];exact h5 Q' hq⟩
theorem bt.one {ops:Array Oper}:∀ (l:List Oper) (ks:List Nat) (e:Env) (h:Heap) (Q:List Nat->Env->Heap->Prop),bt P T ov ops l ks e h Q->∃ df e' h',Q df e' h'/\∀ Q':List Nat->Env->Heap->Prop,Q' df e' h'->bt P T ov ops l ks e h Q'
 | [],ks,e,h,Q,hw=>⟨ks,e,h,hw,λ_ hq=>hq⟩
 |o::l,ks,e,h,Q,hw=>by
  simp only [bt,mW] at hw ⊢
  split at hw
  .rename_i eV
   obtain ⟨v,h1,h2,h3⟩:=bL.one hw
   obtain ⟨df,e',h',h4,h5⟩:=bt.one l _ _ _ _ h2
   exact ⟨df,e',h',h4,λQ' hq=>by rw [aC eV];exact h3 _ (h5 Q' hq)⟩
  .rename_i eV
   obtain ⟨df,e',h',h4,h5⟩:=bt.one l _ _ _ _ hw
   exact ⟨df,e',h',h4,λQ' hq=>by rw [ay eV];exact h5 Q' hq⟩
def GF (P:Program) (T:bm) (ov:Ov) (rd:Option Nat) (c:Code) (Q:Ex->Env->Heap->Prop):Ex->Env->Heap->Prop
 | .normal,e',h'=>W P T ov rd (.loop c) e' h' Q
 | .exit i,e',h'=>Q (.exit i) e' h'
 | .ret,e',h'=>Q .ret e' h'
section
variable {rd:Option Nat}
theorem W.one:∀ (c:Code) (e:Env) (h:Heap) (Q:Ex->Env->Heap->Prop),W P T ov rd c e h Q->∃ x e' h',Q x e' h'/\∀ Q':Ex->Env->Heap->Prop,Q' x e' h'->W P T ov rd c e h Q':=by
 intro c
 induction c with
 |skip=>intro e h Q hw;exact ⟨_,_,_,hw,λ_ hq=>hq⟩
 |region id ops d =>
  intro e h Q hw
  cases d with
  |false =>
   obtain ⟨e',h',h1,h2⟩:=cm.one _ _ _ _ hw
   exact ⟨_,e',h',h1,λQ' hq=>h2 _ hq⟩
  |true =>
   obtain ⟨ks,e',h',h1,h2⟩:=bt.one _ _ _ _ _ hw
   exact ⟨_,e',h',h1.2,λQ' hq=>h2 _ ⟨h1.1,hq⟩⟩
 |seq a b fZ ga =>
  intro e h Q hw
  simp only [W] at hw ⊢
  obtain ⟨x,e1,h1,h2,h3⟩:=fZ _ _ _ hw
  cases x with
  |normal =>
   obtain ⟨x,e2,h4,h5,h6⟩:=ga _ _ _ h2
   exact ⟨x,e2,h4,h5,λQ' hq=>h3 _ (h6 Q' hq)⟩
  |exit id=>exact ⟨_,e1,h1,h2,λQ' hq=>h3 _ hq⟩
  |ret=>exact ⟨_,e1,h1,h2,λQ' hq=>h3 _ hq⟩
 |cond c a b fZ ga =>
  intro e h Q hw
  simp only [W,zu] at hw ⊢
  split at hw
  .rename_i t ht
   cases t with
   |true =>
    obtain ⟨x,e1,h1,h2,h3⟩:=fZ _ _ _ (hw.1 rfl)
    exact ⟨x,e1,h1,h2,λQ' hq=>⟨λ_=>h3 Q' hq,λhh=>nomatch hh⟩⟩
   |false =>
    obtain ⟨x,e1,h1,h2,h3⟩:=ga _ _ _ (hw.2 rfl)
    exact ⟨x,e1,h1,h2,λQ' hq=>⟨λhh=>(nomatch hh),λ_=>h3 Q' hq⟩⟩
  .exact hw.elim
 |block id c ih =>
  intro e h Q hw
  simp only [W] at hw ⊢
  obtain ⟨x,e1,h1,h2,h3⟩:=ih _ _ _ hw
  cases x with
  |normal=>exact ⟨.normal,e1,h1,h2,λQ' hq=>h3 _ hq⟩
  |exit i =>
   by_cases hi:i=id
   .simp only [aC hi] at h2
    exact ⟨.normal,e1,h1,h2,λQ' hq=>h3 _ (by simp only [aC hi];exact hq)⟩
   .simp only [ay hi] at h2
    exact ⟨.exit i,e1,h1,h2,λQ' hq=>h3 _ (by simp only [ay hi];exact hq)⟩
  |ret=>exact ⟨.ret,e1,h1,h2,λQ' hq=>h3 _ hq⟩
 |loop c ih =>
  intro e h Q hw
  simp only [W] at hw ⊢
  obtain ⟨n,hw⟩:=hw
  induction n generalizing e h with
  |zero=>exact hw.elim
  |succ n Mf =>
   simp only [cV] at hw
   obtain ⟨x,e1,h1,h2,h3⟩:=ih _ _ _ hw
   cases x with
   |normal =>
    obtain ⟨x,e2,h4,h5,h6⟩:=Mf _ _ h2
    refine ⟨x,e2,h4,h5,λQ' hq=>?_⟩
    obtain ⟨m,hm⟩:=h6 Q' hq
    exact ⟨m+1,by simp only [cV];exact h3 _ hm⟩
   |exit id=>exact ⟨.exit id,e1,h1,h2,λQ' hq=>⟨1,by simp only [cV];exact h3 _ hq⟩⟩
   |ret=>exact ⟨.ret,e1,h1,h2,λQ' hq=>⟨1,by simp only [cV];exact h3 _ hq⟩⟩
 |exit id=>intro e h Q hw;exact ⟨_,_,_,hw,λ_ hq=>hq⟩
 |ret=>intro e h Q hw;exact ⟨_,_,_,hw,λ_ hq=>hq⟩
 |label l=>intro e h Q hw;exact ⟨_,_,_,hw,λ_ hq=>hq⟩
 |rangeFunc g ps a b _ _ =>
  intro e h Q hw
  simp only [W,Bb] at hw
  split at hw
  .rename_i f fi ca hg
   obtain ⟨hc,n,v,h1,h2,h3⟩:=hw
   unfold GH at h3
   split at h3
   .rename_i x e' h' h4
    refine ⟨x,e',h',h3,λQ' hq=>?_⟩
    simp only [W,Bb,hg]
    exact ⟨hc,n,v,h1,h2,by show GH (AA h.size e h1) Q';rw [h4];exact hq⟩
   .exact h3.elim
  .exact hw.elim
 |scope c ih=>intro e h Q hw;exact ih _ _ _ hw
 |goto l=>intro e h Q hw;exact hw.elim
 |refuse s=>intro e h Q hw;exact hw.elim
theorem H8 {c:Code} {e:Env} {h:Heap} {Q:Ex->Env->Heap->Prop} (hw:W P T ov rd c e h (GF P T ov rd c Q)):W P T ov rd (.loop c) e h Q:=by
 obtain ⟨x,e1,h1,h2,h3⟩:=W.one _ _ _ _ hw
 simp only [W]
 cases x with
 |normal =>
  simp only [GF,W] at h2
  obtain ⟨n,hn⟩:=h2
  exact ⟨n+1,by simp only [cV];exact h3 _ hn⟩
 |exit id=>exact ⟨1,by simp only [cV];exact h3 _ h2⟩
 |ret=>exact ⟨1,by simp only [cV];exact h3 _ h2⟩
theorem YN (c:Code) (Q:Ex->Env->Heap->Prop) (e:Env) (h:Heap):GF P T ov rd c Q .normal e h=W P T ov rd (.loop c) e h Q:=rfl
theorem ZB (c:Code) (Q:Ex->Env->Heap->Prop) (i:Nat) (e:Env) (h:Heap):GF P T ov rd c Q (.exit i) e h=Q (.exit i) e h:=rfl
theorem zqM (c:Code) (Q:Ex->Env->Heap->Prop) (e:Env) (h:Heap):GF P T ov rd c Q .ret e h=Q .ret e h:=rfl
end
theorem bN {t:Tmp} {K:aF} {e:Env} {h:Heap} (hr:fn.results=#[.tmp t]):dq T fn K .ret e h=K (e.get t) h:=by
 simp [dq,jH,hr,nO]
theorem T2 {t:Tmp} {y:TypeId} {K:aF} {e:Env} {h:Heap} (hr:fn.results=#[.cell t y]):dq T fn K .ret e h=aE (eQ T y (e.get t) h) h K:=by
 simp only [dq,jH,hr,nO,aE]
 cases eQ T y (e.get t) h <;> simp
theorem Ir {t u:Tmp} {K:aF} {e:Env} {h:Heap} (hr:fn.results=#[.tmp t,.tmp u]):dq T fn K .ret e h=K (.tuple #[e.get t,e.get u]) h:=by
 simp [dq,jH,hr,nO]
end
noncomputable def vN:=PLift.up (And.intro @ztk <| And.intro @S4 <| And.intro @zqR <| And.intro @zoh <| And.intro @zth <| And.intro @zwU <| And.intro @ztl <| And.intro @zso <| And.intro @UP <| And.intro @Uj <| And.intro @zwQ <| And.intro @zwR <| And.intro @zxy <| And.intro @zvj <| And.intro @Zf <| And.intro @zq6 <| And.intro @zs8 <| And.intro @Yy <| And.intro @Zd <| And.intro @zpF <| And.intro @zqd <| And.intro @zsh <| And.intro @YN <| And.intro @ZB <| And.intro @zqM <| And.intro @zxv <| And.intro @zuP <| And.intro @zxw <| And.intro @zqD <| And.intro @Zz <| And.intro @zy4 <| And.intro @zwF <| And.intro @zqC <| And.intro @Zy <| And.intro @Zg <| And.intro @zxu <| And.intro @zwK <| And.intro @zsl <| And.intro @zrb <| And.intro @zt1 <| And.intro @zsn <| And.intro @zwE <| And.intro @zra <| And.intro @zoq <| And.intro @zwJ <| And.intro @zsN <| And.intro @zsM <| And.intro @zoo <| And.intro @zwH <| And.intro @zop <| And.intro @ztd <| And.intro @zq7 <| And.intro @zxx <| And.intro @Ty <| And.intro @zwI <| And.intro @zy5 <| And.intro @zxt <| And.intro @zy7 <| And.intro @zy6 <| And.intro @zti <| And.intro @zrv <| And.intro @zpz <| And.intro @nK <| And.intro @zsL <| And.intro @zta <| And.intro @zp3 <| And.intro @Z2 <| And.intro @zuL <| And.intro @zuN <| And.intro @zuM <| And.intro @zq8 <| And.intro @zuK <| And.intro @ztb <| And.intro @zpW <| And.intro @ZX <| And.intro @zte <| And.intro @zwL <| And.intro @zp1 <| And.intro @zp0 <| And.intro @Z3 <| And.intro @ztQ <| And.intro @ztP <| And.intro @ztO <| And.intro @ztN <| And.intro @zvz <| And.intro @zvK <| And.intro @zvA <| And.intro @zvG <| And.intro @zvE <| And.intro @zvD <| And.intro @zvC <| And.intro @zvB <| And.intro @ztW <| And.intro @cF <| And.intro @Iw <| And.intro @iL <| And.intro @zrJ <| And.intro @ztz <| @wrap_i64)
theorem syms:type_of% vN.down:=vN.down
theorem zy8 (v:Value):∀ (h:Heap) (K:Value->Heap->Prop),aE (some v) h K=K v h:=λ_ _=>rfl
theorem Xm (s:ByteArray) (h:Heap) (K:Value->Heap->Prop):aE (some (.string s)) h K=K (.string s) h:=rfl
theorem Xl (n:Int) (h:Heap) (K:Value->Heap->Prop):aE (some (.int .i64 n)) h K=K (.int .i64 n) h:=rfl
theorem ec (i:Nat) (h:i < 9223372036854775807):IntKind.i64.wrap ((i:Int)+1)=((i+1:Nat):Int):=by rw [wrap_i64 (by omega) (by omega)];omega
end Go.Am
