/- Steps of the plain machine, for simp. No condition. -/
import Derived.Test.YtnkmeidmdaidhaaGreatDoorG2
set_option linter.unusedSimpArgs false
namespace Go.Am
variable {A k n o:Nat} {t:TypeId} {fn:Func}

def Heap.lay (h:Heap) (l:List aZ) (w:Nat):Heap:={ l.foldl Heap.push h with low:=w }

theorem Ob (l:List aZ):∀ h:Heap,(l.foldl Heap.push h).size=h.size+l.length:=by
 induction l with
 |nil=>intro h;rfl
 |cons b l ih=>intro h;rw [tP,ih,Heap.size_push,eB];omega
theorem zlm (h:Heap) (w A:Nat):Heap.get { h with low:=w } A=h.get A:=rfl
theorem zot (l:List aZ):∀ (h:Heap) (A:Nat),(l.foldl Heap.push h).get A=if h.size<=A then l[A - h.size]? else h.get A:=by
 induction l with
 |nil =>
  intro h A
  simp only [List.foldl_nil]
  split
  .rename_i hA
   simp only [Heap.get,List.getElem?_nil]
   rw [aA (by omega)]
  .rfl
 |cons b l ih =>
  intro h A
  rw [tP,ih,Heap.size_push,Heap.bH]
  by_cases h1:h.size+1<=A
  .rw [aB h1,aB (by omega),show A - h.size=(A - (h.size+1))+1 by omega,List.getElem?_cons_succ]
  .rw [aA h1]
   by_cases h2:A=h.size
   .rw [aB h2,aB (by omega),h2,tQ,Cb]
   .rw [aA h2,aA (by omega)]

section
variable (h:Heap) (l:List aZ) (w:Nat)
theorem br:(h.lay l w).size=h.size+l.length:=Ob l h
theorem Xi:(h.lay l w).low=w:=rfl
theorem zx3 (b:aZ):(h.lay l w).push b=h.lay (l++[b]) w:=by
 simp only [Heap.lay,List.foldl_append,tP,List.foldl_nil]
 rfl
theorem kE (i:Nat):(h.lay l w).get (h.size+i)=l[i]? := by
 unfold Heap.lay
 rw [zlm,zot,aB (by omega),show h.size+i - h.size=i by omega]
theorem sd (hA:A < h.size):(h.lay l w).get A=h.get A:=by
 unfold Heap.lay
 rw [zlm,zot,aA (by omega)]
theorem az:h=h.lay [] h.low:=rfl
theorem LX (hw:min h.low h.size<=w):Ext h (h.lay l w):=⟨by rw [br];omega,λA hA=>sd h l w hA,hw⟩
theorem Ext.at {h':Heap} (e:Ext (h.lay l w) h') (i:Nat) {b:aZ} (hi:l[i]? = some b):h'.get (h.size+i)=some b:=by
 have:i < l.length:=(fR.1 hi).1
 rw [e.get _ (by rw [br];omega),kE,hi]
theorem Ext.under {h':Heap} (e:Ext (h.lay l w) h') (hw:min h.low h.size<=w):Ext h h':=(LX h l w hw).trans e
end

section
variable {P:Program} {T:bN} {ov:Ov}
section
variable (d:Option Tmp) (ty:TypeId) (pos:String) (af:Array Edge) (g:Option (Nat × Bool)) (e:Env) (h:Heap) (K:aO)
def aM (r:Option ai) (h:Heap) (K:aO):Prop:=match r with
 |some v=>K v h
 |none=>False
theorem zBQ (x:Operand):cO P T ov ⟨d,.move x,ty,pos,af,g⟩ e h K=K (bE e x) h:=rfl
theorem zyX (x:Operand):cO P T ov ⟨d,.assign x,ty,pos,af,g⟩ e h K=K (bE e x) h:=rfl
def U6 (c a b:ai):Option ai:=match c with | .bool t=>some (if t then a else b)|_=>none
theorem zt1 (a b:ai):U6 (.bool true) a b=some a:=rfl
theorem zqN (a b:ai):U6 (.bool false) a b=some b:=rfl
theorem xS (r:Option ai):dz (r.map λv=>(v,h)) K=aM r h K:=by cases r <;> rfl
theorem zBR (c a b:Operand):cO P T ov ⟨d,.pick c a b,ty,pos,af,g⟩ e h K=aM (U6 (bE e c) (bE e a) (bE e b)) h K:=by
 show dz (zCC (bE e c) (bE e a) (bE e b) h) K=_
 cases bE e c <;> rfl
theorem zAP (t:TypeId) {b:Nat} {z:List ai} (hz:T.info t=some (n,b,z)):cO P T ov ⟨d,.alloc t,ty,pos,af,g⟩ e h K=K (.pointer (some ⟨h.size,0,none⟩)) (h.push (.row z t false)):=by
 show dz ((T.info t).map λ(_,_,z)=>newRow t z h) K=_
 rw [hz];rfl
theorem zCK (t:TypeId) (x:Operand):cO P T ov ⟨d,.box t x,ty,pos,af,g⟩ e h K=K (.pointer (some ⟨h.size,0,none⟩)) (h.push (.row (bE e x).cells.toList t false)):=rfl
def EY (e:Env):List (Nat × Operand)->List (Nat × ai)
 | []=>[]
 |(i,x)::l=>(i,bE e x)::EY e l
theorem zo3 (l:List (Nat × Operand)):l.map (λ(i,x)=>(i,bE e x))=EY e l:=by
 induction l with
 |nil=>rfl
 |cons a l ih=>rw [qG,ih];rfl
theorem zt0:EY e []=[]:=rfl
theorem zqM (i:Nat) (x:Operand) (l:List (Nat × Operand)):EY e ((i,x)::l)=(i,bE e x)::EY e l:=rfl
theorem zAR (t:TypeId) (ps:List (Nat × Operand)):cO P T ov ⟨d,.build t ⟨ps⟩,ty,pos,af,g⟩ e h K=aM (nP T t (EY e ps)) h K:=by
 rw [<- xS,<- zo3];rfl
theorem zpw (t:TypeId) (n:Nat) (ps:List (Nat × Operand)):cO P T ov ⟨d,.buildSlice t n ⟨ps⟩,ty,pos,af,g⟩ e h K=dz (wW T t n (EY e ps) h) K:=by
 rw [<- zo3];rfl
theorem zBP (t:TypeId) (x:Operand):cO P T ov ⟨d,.load t x,ty,pos,af,g⟩ e h K=aM (hU T t (bE e x) h) h K:=by rw [<- xS];rfl
def kX (r:Option Heap) (K:aO):Prop:=match r with
 |some h=>K undef h
 |none=>False
theorem zv8:kX (some h) K=K undef h:=rfl
theorem zAW (t:TypeId) (x y:Operand):cO P T ov ⟨d,.store t x y,ty,pos,af,g⟩ e h K=kX (iQ T t (bE e x) (bE e y) h) K:=by
 show dz ((iQ T t (bE e x) (bE e y) h).map λh'=>(undef,h')) K=_
 cases iQ T t (bE e x) (bE e y) h <;> rfl
def Eb (v:ai):Option ai:=match v with
 | .pointer (some a)=>some (.pointer (some a))
 | .func (.func f) a b=>some (.func (.func f) a b)
 | .iface t a=>some (.iface t a)
 |_=>none
theorem zx9 (a:Addr):Eb (.pointer (some a))=some (.pointer (some a)):=rfl
theorem zwa (f:FuncId) (a b:Array ai):Eb (.func (.func f) a b)=some (.func (.func f) a b):=rfl
theorem zuE (x:Operand):cO P T ov ⟨d,.nilCheck x,ty,pos,af,g⟩ e h K=aM (Eb (bE e x)) h K:=by
 show dz (Uv (bE e x) h) K=_
 generalize bE e x=v
 cases v <;> try rfl
 .rename_i p;cases p <;> rfl
 .rename_i f a b;cases f <;> rfl
theorem zAQ (op:BinOp) (t:TypeId) (x y:Operand) (yt:TypeId):cO P T ov ⟨d,.binOp op t x y yt,ty,pos,af,g⟩ e h K=aM (cE P T op t (bE e x) (bE e y)) h K:=by rw [<- xS];rfl
theorem zuD (f:FuncId) (fi ca:List Operand):cO P T ov ⟨d,.makeFunc (.func f) ⟨fi⟩ ⟨ca⟩,ty,pos,af,g⟩ e h K=K (.func (.func f) ⟨Ak e fi⟩ ⟨Ak e ca⟩) h:=by
 rw [<- OD,<- OD]
 show K (.func (.func f) (Array.map (bE e) ⟨fi⟩) (Array.map (bE e) ⟨ca⟩)) h=_
 congr 2 <;> simp
theorem zrj (t:TypeId) (l c:Operand):cO P T ov ⟨d,.makeSlice t l c,ty,pos,af,g⟩ e h K=dz (Li T t (bE e l) (bE e c) h) K:=rfl
def wL (e:Env):Option Operand->Option ai
 |some x=>some (bE e x)
 |none=>none
theorem zww (x:Operand):wL e (some x)=some (bE e x):=rfl
theorem zwv:wL e none=none:=rfl
theorem zAV (t:TypeId) (x:Operand) (l hi m:Option Operand):cO P T ov ⟨d,.slice t x l hi m,ty,pos,af,g⟩ e h K=aM (lf T t (bE e x) (wL e l) (wL e hi) (wL e m)) h K:=by
 rw [<- xS];cases l <;> cases hi <;> cases m <;> rfl
theorem zrh (s:TypeId) (x:Operand) (f:Nat):cO P T ov ⟨d,.fieldAddr s x f,ty,pos,af,g⟩ e h K=aM (mu T s (bE e x) f) h K:=by rw [<- xS];rfl
theorem zAT (s:TypeId) (x:Operand) (f:Nat):cO P T ov ⟨d,.field s x f,ty,pos,af,g⟩ e h K=aM (Pg T s (bE e x) f) h K:=by rw [<- xS];rfl
theorem zri (t:TypeId) (x i:Operand):cO P T ov ⟨d,.indexAddr t x i,ty,pos,af,g⟩ e h K=aM (kF T t (bE e x) (bE e i)) h K:=by rw [<- xS];rfl
def Ej (v:ai) (i:Nat):Option ai:=match v with | .tuple vs=>vs[i]?|_=>none
theorem zuu (vs:List ai) (i:Nat):Ej (.tuple ⟨vs⟩) i=vs[i]? := by simp [Ej]
theorem zxh (t:Operand) (i:Nat):cO P T ov ⟨d,.extract t i,ty,pos,af,g⟩ e h K=aM (Ej (bE e t) i) h K:=by
 rw [<- xS]
 show dz (UX (bE e t) i h) K=_
 cases bE e t <;> rfl
theorem zBT (op:UnOp) (t:TypeId) (x:Operand):cO P T ov ⟨d,.unOp op t x,ty,pos,af,g⟩ e h K=dz (gD P e ⟨d,.unOp op t x,ty,pos,af,g⟩ h) K:=rfl
theorem zpx (s t:TypeId) (x:Operand) (h1:sg T s=false) (h2:sg T t=false):cO P T ov ⟨d,.convert s t x,ty,pos,af,g⟩ e h K=dz (gD P e ⟨d,.convert s t x,ty,pos,af,g⟩ h) K:=by
 show dz (if sg T s then (OE T s t (bE e x) h).map λr=>(r,h) else if sg T t then (if OM T s then GF T t (bE e x) h else none) else gD P e ⟨d,.convert s t x,ty,pos,af,g⟩ h) K=_
 rw [h1,h2]
 rfl
theorem zAU (t:TypeId) (x i:Operand):cO P T ov ⟨d,.index t x i,ty,pos,af,g⟩ e h K=dz (gD P e ⟨d,.index t x i,ty,pos,af,g⟩ h) K:=rfl
theorem zCL (t:TypeId) (x:Operand):cO P T ov ⟨d,.call ⟨.builtin .len,#[x],#[t]⟩,ty,pos,af,g⟩ e h K=aM (bW T t (bE e x) h) h K:=by rw [<- xS];rfl
theorem lF (t u:TypeId) (s x:Operand) (hs:tJ T t u=true):cO P T ov ⟨d,.call ⟨.builtin .append,#[s,x],#[t,u]⟩,ty,pos,af,g⟩ e h K=dz (j4 T t (bE e s) (bE e x) h) K:=by
 show dz (if tJ T t u then j4 T t (bE e s) (bE e x) h else none) K=_
 rw [aB hs]
theorem zBO (t u:TypeId) (s x:Operand):cO P T ov ⟨d,.call ⟨.builtin .copy,#[s,x],#[t,u]⟩,ty,pos,af,g⟩ e h K=dz (My T t (bE e s) (bE e x) h) K:=rfl
theorem zCN (x y:Operand) (ia:Array TypeId):cO P T ov ⟨d,.call ⟨.builtin .min,#[x,y],ia⟩,ty,pos,af,g⟩ e h K=dz (gD P e ⟨d,.call ⟨.builtin .min,#[x,y],ia⟩,ty,pos,af,g⟩ h) K:=rfl
theorem zCM (x y:Operand) (ia:Array TypeId):cO P T ov ⟨d,.call ⟨.builtin .max,#[x,y],ia⟩,ty,pos,af,g⟩ e h K=dz (gD P e ⟨d,.call ⟨.builtin .max,#[x,y],ia⟩,ty,pos,af,g⟩ h) K:=rfl
end

def Cm:List Oper->Nat->Option Tmp
 | [],_=>none
 |o::_,0=>o.dst
 |_::l,n+1=>Cm l n
theorem zrJ:∀ (l:List Oper) (j:Nat),(l[j]?).bind (·.dst)=Cm l j
 | [],j=>by simp [Cm]
 |o::l,0=>by simp [Cm]
 |o::l,j+1=>by rw [List.getElem?_cons_succ,zrJ l j];rfl
theorem ztq (o:Oper) (l:List Oper):Cm (o::l) 0=o.dst:=rfl
theorem ztp (o:Oper) (l:List Oper) (n:Nat):Cm (o::l) (n+1)=Cm l n:=rfl
def zzl (t:Option Tmp) (e:Env) (b:Bool):Bool:=match t with|some t=>Ah (e.get t) b|none=>false
theorem zqm (t:Tmp) (e:Env) (b:Bool):zzl (some t) e b=Ah (e.get t) b:=rfl
theorem zAX (ops:List Oper) (d:Option Tmp) (op:Op) (ty:TypeId) (pos:String) (af:Array Edge) (e:Env) (j:Nat) (b:Bool):mI ⟨ops⟩ ⟨d,op,ty,pos,af,some (j,b)⟩ e=zzl (Cm ops j) e b:=by
 rw [<- zrJ]
 simp only [mI,List.getElem?_toArray]
 cases (ops[j]?).bind (·.dst) <;> rfl
theorem zx0:Ah (.bool true) true=true:=rfl
theorem zxX:Ah (.bool false) false=true:=rfl
theorem zxZ:Ah (.bool true) false=false:=rfl
theorem zxY:Ah (.bool false) true=false:=rfl

def Pq (b:Option aZ) (o:Nat):Option ai:=match b with
 |some (.row cs _ _)=>cs[o]?
 |_=>none
theorem zvg (cs:List ai) (e:TypeId) (r:Bool) (o:Nat):Pq (some (.row cs e r)) o=cs[o]? := rfl
def yA (b:Option aZ) (o n:Nat):Option ai:=match b with
 |some (.row cs _ _)=>(cut cs o n).map λl=>.agg l.toArray
 |_=>none
theorem zxG (cs:List ai) (e:TypeId) (r:Bool) (o n:Nat):yA (some (.row cs e r)) o n=(cut cs o n).map λl=>.agg l.toArray:=rfl
theorem rA {h:Heap} (hg:dw T t=some false):hU T t (.pointer (some ⟨A,o,none⟩)) h=Pq (h.get A) o:=by
 simp only [hU,hg,dH,kA]
 cases h.get A with
 |none=>rfl
 |some b =>
  cases b with
  |dead=>rfl
  |map es c=>rfl
  |loop _ _ _ _ _ _=>rfl
  |row cs e r =>
   simp only [cut,Pq,gH,if_false]
   split
   .rename_i hl
    simp [lJ]
   .rename_i hl
    rw [GR (by omega)];rfl
theorem EM {h:Heap} (hg:dw T t=some true) (hs:dF T t=some n):hU T t (.pointer (some ⟨A,o,none⟩)) h=yA (h.get A) o n:=by
 simp only [hU,hg,hs,dH,kA,if_true]
 cases h.get A with
 |none=>rfl
 |some b=>cases b <;> rfl
theorem zx5 {s:aV} {h:Heap} (hd:T.desc t=some .string):bW T t (.string s) h=some (.int .i64 s.size):=by simp [bW,hd]
theorem zK {e:TypeId} {a:Option Addr} {c:Nat} {h:Heap} (hd:T.desc t=some (.slice e)):bW T t (.slice a n c) h=some (.int .i64 n):=by simp [bW,hd]
theorem zvS {e:TypeId} {m:Nat} {ik:IntKind} {i:Int} (hd:T.desc t=some (.array m e)) (hs:dF T e=some k) :
 kF T t (.pointer (some ⟨A,o,none⟩)) (.int ik i)=if 0<=i/\i < m then some (.pointer (some ⟨A,o+i.toNat*k,none⟩)) else none:=by simp [kF,hd,hs]
theorem zQ {e:TypeId} {c:Nat} {ik:IntKind} {i:Int} (hd:T.desc t=some (.slice e)) (hs:dF T e=some k) :
 kF T t (.slice (some ⟨A,o,none⟩) n c) (.int ik i)=if 0<=i/\i < n then some (.pointer (some ⟨A,o+i.toNat*k,none⟩)) else none:=by simp [kF,hd,hs]
theorem AA {e:TypeId} {b:Nat} {z:List ai} (hd:T.desc t=some (.slice e)) (hi:T.info e=some (k,b,z)) (len:Nat) (parts:List (Nat × ai)) (h:Heap) :
 wW T t len parts h=if len*k > 16777216 || len > 16777216 then none else (pZ (λi=>some (i*k,k)) (nh z len) parts).map λcs=>(.slice (some ⟨h.size,0,none⟩) len len,h.push (.row cs e false)):=by
 simp [wW,hd,hi]
theorem zvH (place:Nat->Option (Nat × Nat)) (cells:List ai):pZ place cells []=some cells:=rfl
theorem zvI (cells:List ai) (i k:Nat) (v:ai) (rest:List (Nat × ai)) (h1:v.cells.size=k) (h2:i*k+k<=cells.length) :
 pZ (λi=>some (i*k,k)) cells ((i,v)::rest)=pZ (λi=>some (i*k,k)) (aI cells (i*k) v.cells.toList) rest:=by
 simp [pZ,h1,h2]
theorem fQ {i:Int} (h1 : -9223372036854775808<=i) (h2:i < 9223372036854775808):IntKind.i64.wrap i=i:=by
 show (if (true && decide (i % (2 ^ 64:Int) >= (2 ^ 63:Int)))=true then i % (2 ^ 64:Int) - (2 ^ 64:Int) else i % (2 ^ 64:Int))=i
 by_cases hc:i % (2 ^ 64:Int) >= (2 ^ 63:Int)
 .rw [aB (by simpa using hc)];omega
 .rw [aA (by simpa using hc)];omega

def tL (b:Bool) (h:Heap) (K:aO):Prop:=(b=true->K (.bool true) h)/\(b=false->K (.bool false) h)
theorem zxf (b:Bool) (h:Heap) (K:aO):aM (some (.bool b)) h K=tL b h K:=by
 cases b <;> simp [aM,tL]
theorem ztr (h:Heap) (K:aO):tL true h K=K (.bool true) h:=by simp [tL]
theorem zql (h:Heap) (K:aO):tL false h K=K (.bool false) h:=by simp [tL]
theorem zsC (k:IntKind) (i:Int) (h:Heap) (K:aO):aM (some (.int k i)) h K=K (.int k i) h:=rfl
theorem zyV (s:aV) (h:Heap) (K:aO):aM (some (.string s)) h K=K (.string s) h:=rfl
theorem zsD (a:Option Addr) (h:Heap) (K:aO):aM (some (.pointer a)) h K=K (.pointer a) h:=rfl
theorem zuC (a:Option Addr) (n c:Nat) (h:Heap) (K:aO):aM (some (.slice a n c)) h K=K (.slice a n c) h:=rfl
theorem zyT (cs:Array ai) (h:Heap) (K:aO):aM (some (.agg cs)) h K=K (.agg cs) h:=rfl
theorem zxg (f:FuncId) (a b:Array ai) (h:Heap) (K:aO):aM (some (.func (.func f) a b)) h K=K (.func (.func f) a b) h:=rfl

theorem cO.one {o:Oper} {e:Env} {h:Heap} {K:aO} (hw:cO P T ov o e h K):∃ v h',K v h'/\∀ K':aO,K' v h'->cO P T ov o e h K':=by
 unfold cO at hw
 split at hw
 .rename_i f args ia aP
  split at hw
  .rename_i g fi ca hf
   obtain ⟨n,v,h',h1,h2⟩:=hw
   refine ⟨v,h',h2,λK' hk=>?_⟩
   unfold cO
   simp only [aP,hf]
   exact ⟨n,v,h',h1,hk⟩
  .rename_i A fi ca hf
   obtain ⟨hc,n,v,h',h1,h2⟩:=hw
   refine ⟨v,h',h2,λK' hk=>?_⟩
   unfold cO
   simp only [aP,hf]
   exact ⟨hc,n,v,h',h1,hk⟩
  .exact hw.elim
 .rename_i r name args ia aP
  split at hw
  .rename_i t x hr
   split at hw
   .rename_i f y hm
    obtain ⟨n,v,h',h1,h2⟩:=hw
    refine ⟨v,h',h2,λK' hk=>?_⟩
    unfold cO
    simp only [aP,hr,hm]
    exact ⟨n,v,h',h1,hk⟩
   .exact hw.elim
  .exact hw.elim
 .rename_i jU kp
  unfold dz at hw
  split at hw
  .rename_i v h' h1
   refine ⟨v,h',hw,λK' hk=>?_⟩
   unfold cO
   split
   .rename_i f args ia aP;exact (jU f args ia aP).elim
   .rename_i r name args ia aP;exact (kp r name args ia aP).elim
   .rw [h1];exact hk
  .exact hw.elim
theorem dc.one {ops:Array Oper}:∀ (l:List Oper) (e:Env) (h:Heap) (Q:Env->Heap->Prop),dc P T ov ops l e h Q->∃ e' h',Q e' h'/\∀ Q':Env->Heap->Prop,Q' e' h'->dc P T ov ops l e h Q'
 | [],e,h,Q,hw=>⟨e,h,hw,λ_ hq=>hq⟩
 |o::l,e,h,Q,hw=>by
  simp only [dc,rM] at hw ⊢
  split at hw
  .rename_i gA
   obtain ⟨v,h1,h2,h3⟩:=cO.one hw
   obtain ⟨e',h',h4,h5⟩:=dc.one l _ _ _ h2
   exact ⟨e',h',h4,λQ' hq=>by rw [aB gA];exact h3 _ (h5 Q' hq)⟩
  .rename_i gA
   obtain ⟨e',h',h4,h5⟩:=dc.one l _ _ _ hw
   exact ⟨e',h',h4,λQ' hq=>by rw [aA gA];exact h5 Q' hq⟩
theorem cj.one {ops:Array Oper}:∀ (l:List Oper) (ks:List Nat) (e:Env) (h:Heap) (Q:List Nat->Env->Heap->Prop),cj P T ov ops l ks e h Q->∃ ez e' h',Q ez e' h'/\∀ Q':List Nat->Env->Heap->Prop,Q' ez e' h'->cj P T ov ops l ks e h Q'
 | [],ks,e,h,Q,hw=>⟨ks,e,h,hw,λ_ hq=>hq⟩
 |o::l,ks,e,h,Q,hw=>by
  simp only [cj,rM] at hw ⊢
  split at hw
  .rename_i gA
   obtain ⟨v,h1,h2,h3⟩:=cO.one hw
   obtain ⟨ez,e',h',h4,h5⟩:=cj.one l _ _ _ _ h2
   exact ⟨ez,e',h',h4,λQ' hq=>by rw [aB gA];exact h3 _ (h5 Q' hq)⟩
  .rename_i gA
   obtain ⟨ez,e',h',h4,h5⟩:=cj.one l _ _ _ _ hw
   exact ⟨ez,e',h',h4,λQ' hq=>by rw [aA gA];exact h5 Q' hq⟩
def Mn (P:Program) (T:bN) (ov:Ov) (rd:Option Nat) (c:Code) (Q:Ex->Env->Heap->Prop):Ex->Env->Heap->Prop
 | .normal,e',h'=>W P T ov rd (.loop c) e' h' Q
 | .exit i,e',h'=>Q (.exit i) e' h'
 | .ret,e',h'=>Q .ret e' h'
section
variable {rd:Option Nat}
theorem W.one:∀ (c:Code) (e:Env) (h:Heap) (Q:Ex->Env->Heap->Prop),W P T ov rd c e h Q->∃ x e' h',Q x e' h'/\∀ Q':Ex->Env->Heap->Prop,Q' x e' h'->W P T ov rd c e h Q':=by
 intro c
 induction c with
 |skip=>intro e h Q hw;exact ⟨_,_,_,hw,λ_ hq=>hq⟩
 |region id ops d =>
  intro e h Q hw
  cases d with
  |false =>
   obtain ⟨e',h',h1,h2⟩:=dc.one _ _ _ _ hw
   exact ⟨_,e',h',h1,λQ' hq=>h2 _ hq⟩
  |true =>
   obtain ⟨ks,e',h',h1,h2⟩:=cj.one _ _ _ _ _ hw
   exact ⟨_,e',h',h1.2,λQ' hq=>h2 _ ⟨h1.1,hq⟩⟩
 |seq a b jh ji =>
  intro e h Q hw
  simp only [W] at hw ⊢
  obtain ⟨x,e1,h1,h2,h3⟩:=jh _ _ _ hw
  cases x with
  |normal =>
   obtain ⟨x,e2,h4,h5,h6⟩:=ji _ _ _ h2
   exact ⟨x,e2,h4,h5,λQ' hq=>h3 _ (h6 Q' hq)⟩
  |exit id=>exact ⟨_,e1,h1,h2,λQ' hq=>h3 _ hq⟩
  |ret=>exact ⟨_,e1,h1,h2,λQ' hq=>h3 _ hq⟩
 |cond c a b jh ji =>
  intro e h Q hw
  simp only [W,Ff] at hw ⊢
  split at hw
  .rename_i t ht
   cases t with
   |true =>
    obtain ⟨x,e1,h1,h2,h3⟩:=jh _ _ _ (hw.1 rfl)
    exact ⟨x,e1,h1,h2,λQ' hq=>⟨λ_=>h3 Q' hq,λhh=>nomatch hh⟩⟩
   |false =>
    obtain ⟨x,e1,h1,h2,h3⟩:=ji _ _ _ (hw.2 rfl)
    exact ⟨x,e1,h1,h2,λQ' hq=>⟨λhh=>(nomatch hh),λ_=>h3 Q' hq⟩⟩
  .exact hw.elim
 |block id c ih =>
  intro e h Q hw
  simp only [W] at hw ⊢
  obtain ⟨x,e1,h1,h2,h3⟩:=ih _ _ _ hw
  cases x with
  |normal=>exact ⟨.normal,e1,h1,h2,λQ' hq=>h3 _ hq⟩
  |exit i =>
   by_cases hi:i=id
   .simp only [aB hi] at h2
    exact ⟨.normal,e1,h1,h2,λQ' hq=>h3 _ (by simp only [aB hi];exact hq)⟩
   .simp only [aA hi] at h2
    exact ⟨.exit i,e1,h1,h2,λQ' hq=>h3 _ (by simp only [aA hi];exact hq)⟩
  |ret=>exact ⟨.ret,e1,h1,h2,λQ' hq=>h3 _ hq⟩
 |loop c ih =>
  intro e h Q hw
  simp only [W] at hw ⊢
  obtain ⟨n,hw⟩:=hw
  induction n generalizing e h with
  |zero=>exact hw.elim
  |succ n Uh =>
   simp only [dM] at hw
   obtain ⟨x,e1,h1,h2,h3⟩:=ih _ _ _ hw
   cases x with
   |normal =>
    obtain ⟨x,e2,h4,h5,h6⟩:=Uh _ _ h2
    refine ⟨x,e2,h4,h5,λQ' hq=>?_⟩
    obtain ⟨m,hm⟩:=h6 Q' hq
    exact ⟨m+1,by simp only [dM];exact h3 _ hm⟩
   |exit id=>exact ⟨.exit id,e1,h1,h2,λQ' hq=>⟨1,by simp only [dM];exact h3 _ hq⟩⟩
   |ret=>exact ⟨.ret,e1,h1,h2,λQ' hq=>⟨1,by simp only [dM];exact h3 _ hq⟩⟩
 |exit id=>intro e h Q hw;exact ⟨_,_,_,hw,λ_ hq=>hq⟩
 |ret=>intro e h Q hw;exact ⟨_,_,_,hw,λ_ hq=>hq⟩
 |label l=>intro e h Q hw;exact ⟨_,_,_,hw,λ_ hq=>hq⟩
 |rangeFunc g ps a b _ _ =>
  intro e h Q hw
  simp only [W,GZ] at hw
  split at hw
  .rename_i f fi ca hg
   obtain ⟨hc,n,v,h1,h2,h3⟩:=hw
   unfold Mx at h3
   split at h3
   .rename_i x e' h' h4
    refine ⟨x,e',h',h3,λQ' hq=>?_⟩
    simp only [W,GZ,hg]
    exact ⟨hc,n,v,h1,h2,by show Mx (Gd h.size e h1) Q';rw [h4];exact hq⟩
   .exact h3.elim
  .exact hw.elim
 |scope c ih=>intro e h Q hw;exact ih _ _ _ hw
 |goto l=>intro e h Q hw;exact hw.elim
 |refuse s=>intro e h Q hw;exact hw.elim
theorem OB {c:Code} {e:Env} {h:Heap} {Q:Ex->Env->Heap->Prop} (hw:W P T ov rd c e h (Mn P T ov rd c Q)):W P T ov rd (.loop c) e h Q:=by
 obtain ⟨x,e1,h1,h2,h3⟩:=W.one _ _ _ _ hw
 simp only [W]
 cases x with
 |normal =>
  simp only [Mn,W] at h2
  obtain ⟨n,hn⟩:=h2
  exact ⟨n+1,by simp only [dM];exact h3 _ hn⟩
 |exit id=>exact ⟨1,by simp only [dM];exact h3 _ h2⟩
 |ret=>exact ⟨1,by simp only [dM];exact h3 _ h2⟩
theorem zmU (c:Code) (Q:Ex->Env->Heap->Prop) (e:Env) (h:Heap):Mn P T ov rd c Q .normal e h=W P T ov rd (.loop c) e h Q:=rfl
theorem zqR (c:Code) (Q:Ex->Env->Heap->Prop) (i:Nat) (e:Env) (h:Heap):Mn P T ov rd c Q (.exit i) e h=Q (.exit i) e h:=rfl
theorem zt9 (c:Code) (Q:Ex->Env->Heap->Prop) (e:Env) (h:Heap):Mn P T ov rd c Q .ret e h=Q .ret e h:=rfl
end
theorem cZ {t:Tmp} {K:aO} {e:Env} {h:Heap} (hr:fn.results=#[.tmp t]):eu T fn K .ret e h=K (e.get t) h:=by
 simp [eu,nc,hr,tE]
theorem GA {t:Tmp} {y:TypeId} {K:aO} {e:Env} {h:Heap} (hr:fn.results=#[.cell t y]):eu T fn K .ret e h=aM (hU T y (e.get t) h) h K:=by
 simp only [eu,nc,hr,tE,aM]
 cases hU T y (e.get t) h <;> simp
theorem BS {t u:Tmp} {K:aO} {e:Env} {h:Heap} (hr:fn.results=#[.tmp t,.tmp u]):eu T fn K .ret e h=K (.tuple #[e.get t,e.get u]) h:=by
 simp [eu,nc,hr,tE]
end
noncomputable def BB:=PLift.up (And.intro @zxr <| And.intro @znH <| And.intro @zul <| And.intro @zq3 <| And.intro @zxn <| And.intro @zA4 <| And.intro @zxt <| And.intro @zwc <| And.intro @zA3 <| And.intro @zuS <| And.intro @zA0 <| And.intro @zA1 <| And.intro @zBU <| And.intro @zzD <| And.intro @zpp <| And.intro @zus <| And.intro @zw6 <| And.intro @zma <| And.intro @zp2 <| And.intro @zs7 <| And.intro @ztJ <| And.intro @zv3 <| And.intro @zmU <| And.intro @zqR <| And.intro @zt9 <| And.intro @zBQ <| And.intro @zyX <| And.intro @zBR <| And.intro @zt1 <| And.intro @zqN <| And.intro @zCK <| And.intro @zAR <| And.intro @zt0 <| And.intro @zqM <| And.intro @zpw <| And.intro @zBP <| And.intro @zAW <| And.intro @zv8 <| And.intro @zuE <| And.intro @zx9 <| And.intro @zwa <| And.intro @zAQ <| And.intro @zuD <| And.intro @zrj <| And.intro @zAV <| And.intro @zww <| And.intro @zwv <| And.intro @zrh <| And.intro @zAT <| And.intro @zri <| And.intro @zxh <| And.intro @zuu <| And.intro @zBT <| And.intro @zpx <| And.intro @zAU <| And.intro @zCL <| And.intro @zBO <| And.intro @zCN <| And.intro @zCM <| And.intro @zxp <| And.intro @zu0 <| And.intro @zsY <| And.intro @xN <| And.intro @zwu <| And.intro @zxf <| And.intro @ztr <| And.intro @zql <| And.intro @zsC <| And.intro @zyV <| And.intro @zsD <| And.intro @zuC <| And.intro @zyT <| And.intro @zxg <| And.intro @ztk <| And.intro @zp9 <| And.intro @zxj <| And.intro @zAX <| And.intro @ztq <| And.intro @ztp <| And.intro @zqm <| And.intro @zx0 <| And.intro @zxZ <| And.intro @zxY <| And.intro @zxX <| And.intro @zzG <| And.intro @zzQ <| And.intro @zzH <| And.intro @zzM <| And.intro @zzL <| And.intro @zzK <| And.intro @zzJ <| And.intro @zzI <| And.intro @zx3 <| And.intro @br <| And.intro @Xi <| And.intro @kE <| And.intro @zvg <| And.intro @zxG <| @fQ)
theorem syms:type_of% BB.down:=BB.down
theorem zCO (v:Value):∀ (h:Heap) (K:Value->Heap->Prop),aM (some v) h K=K v h:=λ_ _=>rfl
theorem ajP (s:ByteArray) (h:Heap) (K:Value->Heap->Prop):aM (some (.string s)) h K=K (.string s) h:=rfl
theorem ajO (n:Int) (h:Heap) (K:Value->Heap->Prop):aM (some (.int .i64 n)) h K=K (.int .i64 n) h:=rfl
theorem gE (i:Nat) (h:i < 9223372036854775807):IntKind.i64.wrap ((i:Int)+1)=((i+1:Nat):Int):=by rw [fQ (by omega) (by omega)];omega
end Go.Am
