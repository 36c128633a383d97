/- Steps of the plain machine, for simp. No condition. -/
import Derived.Test.YtnkmeidmdaidhaaGreatDoorG2
set_option linter.unusedSimpArgs false
namespace Go.Am
variable {A k n o:Nat} {t:TypeId} {fn:Func}

def Heap.lay (h:Heap) (l:List bc) (w:Nat):Heap:={ l.foldl Heap.push h with low:=w }

theorem L9 (l:List bc):∀ h:Heap,(l.foldl Heap.push h).size=h.size+l.length:=by
 induction l with
 |nil=>intro h;rfl
 |cons b l ih=>intro h;rw [rL,ih,Heap.size_push,dB];omega
theorem zkG (h:Heap) (w A:Nat):Heap.get { h with low:=w } A=h.get A:=rfl
theorem znw (l:List bc):∀ (h:Heap) (A:Nat),(l.foldl Heap.push h).get A=if h.size<=A then l[A - h.size]? else h.get A:=by
 induction l with
 |nil =>
  intro h A
  simp only [List.foldl_nil]
  split
  .rename_i hA
   simp only [Heap.get,List.getElem?_nil]
   rw [aA (by omega)]
  .rfl
 |cons b l ih =>
  intro h A
  rw [rL,ih,Heap.size_push,Heap.bS]
  by_cases h1:h.size+1<=A
  .rw [aG h1,aG (by omega),show A - h.size=(A - (h.size+1))+1 by omega,List.getElem?_cons_succ]
  .rw [aA h1]
   by_cases h2:A=h.size
   .rw [aG h2,aG (by omega),h2,DB,EO]
   .rw [aA h2,aA (by omega)]

section
variable (h:Heap) (l:List bc) (w:Nat)
theorem bo:(h.lay l w).size=h.size+l.length:=L9 l h
theorem Uw:(h.lay l w).low=w:=rfl
theorem zwO (b:bc):(h.lay l w).push b=h.lay (l++[b]) w:=by
 simp only [Heap.lay,List.foldl_append,rL,List.foldl_nil]
 rfl
theorem kM (i:Nat):(h.lay l w).get (h.size+i)=l[i]? := by
 unfold Heap.lay
 rw [zkG,znw,aG (by omega),show h.size+i - h.size=i by omega]
theorem xW (hA:A < h.size):(h.lay l w).get A=h.get A:=by
 unfold Heap.lay
 rw [zkG,znw,aA (by omega)]
theorem aq:h=h.lay [] h.low:=rfl
theorem Uv (hw:min h.low h.size<=w):Ext h (h.lay l w):=⟨by rw [bo];omega,λA hA=>xW h l w hA,hw⟩
theorem Ext.at {h':Heap} (e:Ext (h.lay l w) h') (i:Nat) {b:bc} (hi:l[i]? = some b):h'.get (h.size+i)=some b:=by
 have:i < l.length:=(fD.1 hi).1
 rw [e.get _ (by rw [bo];omega),kM,hi]
theorem Ext.under {h':Heap} (e:Ext (h.lay l w) h') (hw:min h.low h.size<=w):Ext h h':=(Uv h l w hw).trans e
end

section
variable {P:Program} {T:bx} {ov:Ov}
section
variable (d:Option Tmp) (ty:TypeId) (pos:String) (af:Array Edge) (g:Option (Nat × Bool)) (e:Env) (h:Heap) (K:aL)
def aK (r:Option ai) (h:Heap) (K:aL):Prop:=match r with
 |some v=>K v h
 |none=>False
theorem zAJ (x:Operand):bU P T ov ⟨d,.move x,ty,pos,af,g⟩ e h K=K (br e x) h:=rfl
theorem zxM (x:Operand):bU P T ov ⟨d,.assign x,ty,pos,af,g⟩ e h K=K (br e x) h:=rfl
def Ve (c a b:ai):Option ai:=match c with | .bool t=>some (if t then a else b)|_=>none
theorem zs5 (a b:ai):Ve (.bool true) a b=some a:=rfl
theorem zpV (a b:ai):Ve (.bool false) a b=some b:=rfl
theorem vQ (r:Option ai):da (r.map λv=>(v,h)) K=aK r h K:=by cases r <;> rfl
theorem zAK (c a b:Operand):bU P T ov ⟨d,.pick c a b,ty,pos,af,g⟩ e h K=aK (Ve (br e c) (br e a) (br e b)) h K:=by
 show da (zBw (br e c) (br e a) (br e b) h) K=_
 cases br e c <;> rfl
theorem zzJ (t:TypeId) {b:Nat} {z:List ai} (hz:T.info t=some (n,b,z)):bU P T ov ⟨d,.alloc t,ty,pos,af,g⟩ e h K=K (.pointer (some ⟨h.size,0,none⟩)) (h.push (.row z t false)):=by
 show da ((T.info t).map λ(_,_,z)=>newRow t z h) K=_
 rw [hz];rfl
theorem zBE (t:TypeId) (x:Operand):bU P T ov ⟨d,.box t x,ty,pos,af,g⟩ e h K=K (.pointer (some ⟨h.size,0,none⟩)) (h.push (.row (br e x).cells.toList t false)):=rfl
def Dg (e:Env):List (Nat × Operand)->List (Nat × ai)
 | []=>[]
 |(i,x)::l=>(i,br e x)::Dg e l
theorem zn6 (l:List (Nat × Operand)):l.map (λ(i,x)=>(i,br e x))=Dg e l:=by
 induction l with
 |nil=>rfl
 |cons a l ih=>rw [pR,ih];rfl
theorem zs4:Dg e []=[]:=rfl
theorem zpU (i:Nat) (x:Operand) (l:List (Nat × Operand)):Dg e ((i,x)::l)=(i,br e x)::Dg e l:=rfl
theorem zzL (t:TypeId) (ps:List (Nat × Operand)):bU P T ov ⟨d,.build t ⟨ps⟩,ty,pos,af,g⟩ e h K=aK (mu T t (Dg e ps)) h K:=by
 rw [<- vQ,<- zn6];rfl
theorem zox (t:TypeId) (n:Nat) (ps:List (Nat × Operand)):bU P T ov ⟨d,.buildSlice t n ⟨ps⟩,ty,pos,af,g⟩ e h K=da (uE T t n (Dg e ps) h) K:=by
 rw [<- zn6];rfl
theorem zAI (t:TypeId) (x:Operand):bU P T ov ⟨d,.load t x,ty,pos,af,g⟩ e h K=aK (fU T t (br e x) h) h K:=by rw [<- vQ];rfl
def jM (r:Option Heap) (K:aL):Prop:=match r with
 |some h=>K undef h
 |none=>False
theorem zu8:jM (some h) K=K undef h:=rfl
theorem zzQ (t:TypeId) (x y:Operand):bU P T ov ⟨d,.store t x y,ty,pos,af,g⟩ e h K=jM (gN T t (br e x) (br e y) h) K:=by
 show da ((gN T t (br e x) (br e y) h).map λh'=>(undef,h')) K=_
 cases gN T t (br e x) (br e y) h <;> rfl
def Co (v:ai):Option ai:=match v with
 | .pointer (some a)=>some (.pointer (some a))
 | .func (.func f) a b=>some (.func (.func f) a b)
 | .iface t a=>some (.iface t a)
 |_=>none
theorem zwT (a:Addr):Co (.pointer (some a))=some (.pointer (some a)):=rfl
theorem zvb (f:FuncId) (a b:Array ai):Co (.func (.func f) a b)=some (.func (.func f) a b):=rfl
theorem ztI (x:Operand):bU P T ov ⟨d,.nilCheck x,ty,pos,af,g⟩ e h K=aK (Co (br e x)) h K:=by
 show da (Sg (br e x) h) K=_
 generalize br e x=v
 cases v <;> try rfl
 .rename_i p;cases p <;> rfl
 .rename_i f a b;cases f <;> rfl
theorem zzK (op:BinOp) (t:TypeId) (x y:Operand) (yt:TypeId):bU P T ov ⟨d,.binOp op t x y yt,ty,pos,af,g⟩ e h K=aK (bZ P T op t (br e x) (br e y)) h K:=by rw [<- vQ];rfl
theorem ztH (f:FuncId) (fi ca:List Operand):bU P T ov ⟨d,.makeFunc (.func f) ⟨fi⟩ ⟨ca⟩,ty,pos,af,g⟩ e h K=K (.func (.func f) ⟨yu e fi⟩ ⟨yu e ca⟩) h:=by
 rw [<- MB,<- MB]
 show K (.func (.func f) (Array.map (br e) ⟨fi⟩) (Array.map (br e) ⟨ca⟩)) h=_
 congr 2 <;> simp
theorem zqr (t:TypeId) (l c:Operand):bU P T ov ⟨d,.makeSlice t l c,ty,pos,af,g⟩ e h K=da (Jq T t (br e l) (br e c) h) K:=rfl
def uw (e:Env):Option Operand->Option ai
 |some x=>some (br e x)
 |none=>none
theorem zvy (x:Operand):uw e (some x)=some (br e x):=rfl
theorem zvx:uw e none=none:=rfl
theorem zzP (t:TypeId) (x:Operand) (l hi m:Option Operand):bU P T ov ⟨d,.slice t x l hi m,ty,pos,af,g⟩ e h K=aK (jQ T t (br e x) (uw e l) (uw e hi) (uw e m)) h K:=by
 rw [<- vQ];cases l <;> cases hi <;> cases m <;> rfl
theorem zqp (s:TypeId) (x:Operand) (f:Nat):bU P T ov ⟨d,.fieldAddr s x f,ty,pos,af,g⟩ e h K=aK (kP T s (br e x) f) h K:=by rw [<- vQ];rfl
theorem zzN (s:TypeId) (x:Operand) (f:Nat):bU P T ov ⟨d,.field s x f,ty,pos,af,g⟩ e h K=aK (M5 T s (br e x) f) h K:=by rw [<- vQ];rfl
theorem zqq (t:TypeId) (x i:Operand):bU P T ov ⟨d,.indexAddr t x i,ty,pos,af,g⟩ e h K=aK (jq T t (br e x) (br e i)) h K:=by rw [<- vQ];rfl
def Cw (v:ai) (i:Nat):Option ai:=match v with | .tuple vs=>vs[i]?|_=>none
theorem ztz (vs:List ai) (i:Nat):Cw (.tuple ⟨vs⟩) i=vs[i]? := by simp [Cw]
theorem zwa (t:Operand) (i:Nat):bU P T ov ⟨d,.extract t i,ty,pos,af,g⟩ e h K=aK (Cw (br e t) i) h K:=by
 rw [<- vQ]
 show da (SH (br e t) i h) K=_
 cases br e t <;> rfl
theorem zAM (op:UnOp) (t:TypeId) (x:Operand):bU P T ov ⟨d,.unOp op t x,ty,pos,af,g⟩ e h K=da (fB P e ⟨d,.unOp op t x,ty,pos,af,g⟩ h) K:=rfl
theorem zoy (s t:TypeId) (x:Operand) (h1:qv T s=false) (h2:qv T t=false):bU P T ov ⟨d,.convert s t x,ty,pos,af,g⟩ e h K=da (fB P e ⟨d,.convert s t x,ty,pos,af,g⟩ h) K:=by
 show da (if qv T s then (MC T s t (br e x) h).map λr=>(r,h) else if qv T t then (if MI T s then EA T t (br e x) h else none) else fB P e ⟨d,.convert s t x,ty,pos,af,g⟩ h) K=_
 rw [h1,h2]
 rfl
theorem zzO (t:TypeId) (x i:Operand):bU P T ov ⟨d,.index t x i,ty,pos,af,g⟩ e h K=da (fB P e ⟨d,.index t x i,ty,pos,af,g⟩ h) K:=rfl
theorem zBF (t:TypeId) (x:Operand):bU P T ov ⟨d,.call ⟨.builtin .len,#[x],#[t]⟩,ty,pos,af,g⟩ e h K=aK (bP T t (br e x) h) h K:=by rw [<- vQ];rfl
theorem j4 (t u:TypeId) (s x:Operand) (hs:rH T t u=true):bU P T ov ⟨d,.call ⟨.builtin .append,#[s,x],#[t,u]⟩,ty,pos,af,g⟩ e h K=da (lh T t (br e s) (br e x) h) K:=by
 show da (if rH T t u then lh T t (br e s) (br e x) h else none) K=_
 rw [aG hs]
theorem zAH (t u:TypeId) (s x:Operand):bU P T ov ⟨d,.call ⟨.builtin .copy,#[s,x],#[t,u]⟩,ty,pos,af,g⟩ e h K=da (Kv T t (br e s) (br e x) h) K:=rfl
theorem zBH (x y:Operand) (fY:Array TypeId):bU P T ov ⟨d,.call ⟨.builtin .min,#[x,y],fY⟩,ty,pos,af,g⟩ e h K=da (fB P e ⟨d,.call ⟨.builtin .min,#[x,y],fY⟩,ty,pos,af,g⟩ h) K:=rfl
theorem zBG (x y:Operand) (fY:Array TypeId):bU P T ov ⟨d,.call ⟨.builtin .max,#[x,y],fY⟩,ty,pos,af,g⟩ e h K=da (fB P e ⟨d,.call ⟨.builtin .max,#[x,y],fY⟩,ty,pos,af,g⟩ h) K:=rfl
end

def Ab:List Oper->Nat->Option Tmp
 | [],_=>none
 |o::_,0=>o.dst
 |_::l,n+1=>Ab l n
theorem zqS:∀ (l:List Oper) (j:Nat),(l[j]?).bind (·.dst)=Ab l j
 | [],j=>by simp [Ab]
 |o::l,0=>by simp [Ab]
 |o::l,j+1=>by rw [List.getElem?_cons_succ,zqS l j];rfl
theorem zsr (o:Oper) (l:List Oper):Ab (o::l) 0=o.dst:=rfl
theorem zsq (o:Oper) (l:List Oper) (n:Nat):Ab (o::l) (n+1)=Ab l n:=rfl
def zyb (t:Option Tmp) (e:Env) (b:Bool):Bool:=match t with|some t=>yk (e.get t) b|none=>false
theorem zpm (t:Tmp) (e:Env) (b:Bool):zyb (some t) e b=yk (e.get t) b:=rfl
theorem zzR (ops:List Oper) (d:Option Tmp) (op:Op) (ty:TypeId) (pos:String) (af:Array Edge) (e:Env) (j:Nat) (b:Bool):kU ⟨ops⟩ ⟨d,op,ty,pos,af,some (j,b)⟩ e=zyb (Ab ops j) e b:=by
 rw [<- zqS]
 simp only [kU,List.getElem?_toArray]
 cases (ops[j]?).bind (·.dst) <;> rfl
theorem zwM:yk (.bool true) true=true:=rfl
theorem zwJ:yk (.bool false) false=true:=rfl
theorem zwL:yk (.bool true) false=false:=rfl
theorem zwK:yk (.bool false) true=false:=rfl

def Nf (b:Option bc) (o:Nat):Option ai:=match b with
 |some (.row cs _ _)=>cs[o]?
 |_=>none
theorem zui (cs:List ai) (e:TypeId) (r:Bool) (o:Nat):Nf (some (.row cs e r)) o=cs[o]? := rfl
def wD (b:Option bc) (o n:Nat):Option ai:=match b with
 |some (.row cs _ _)=>(cut cs o n).map λl=>.agg l.toArray
 |_=>none
theorem zww (cs:List ai) (e:TypeId) (r:Bool) (o n:Nat):wD (some (.row cs e r)) o n=(cut cs o n).map λl=>.agg l.toArray:=rfl
theorem pI {h:Heap} (hg:cT T t=some false):fU T t (.pointer (some ⟨A,o,none⟩)) h=Nf (h.get A) o:=by
 simp only [fU,hg,dz,kL]
 cases h.get A with
 |none=>rfl
 |some b =>
  cases b with
  |dead=>rfl
  |map es c=>rfl
  |loop _ _ _ _ _ _=>rfl
  |row cs e r =>
   simp only [cut,Nf,fF,if_false]
   split
   .rename_i hl
    simp [ka]
   .rename_i hl
    rw [ER (by omega)];rfl
theorem CV {h:Heap} (hg:cT T t=some true) (hs:de T t=some n):fU T t (.pointer (some ⟨A,o,none⟩)) h=wD (h.get A) o n:=by
 simp only [fU,hg,hs,dz,kL,if_true]
 cases h.get A with
 |none=>rfl
 |some b=>cases b <;> rfl
theorem zwQ {s:bf} {h:Heap} (hd:T.desc t=some .string):bP T t (.string s) h=some (.int .i64 s.size):=by simp [bP,hd]
theorem xS {e:TypeId} {a:Option Addr} {c:Nat} {h:Heap} (hd:T.desc t=some (.slice e)):bP T t (.slice a n c) h=some (.int .i64 n):=by simp [bP,hd]
theorem zuT {e:TypeId} {m:Nat} {ik:IntKind} {i:Int} (hd:T.desc t=some (.array m e)) (hs:de T e=some k) :
 jq T t (.pointer (some ⟨A,o,none⟩)) (.int ik i)=if 0<=i/\i < m then some (.pointer (some ⟨A,o+i.toNat*k,none⟩)) else none:=by simp [jq,hd,hs]
theorem yc {e:TypeId} {c:Nat} {ik:IntKind} {i:Int} (hd:T.desc t=some (.slice e)) (hs:de T e=some k) :
 jq T t (.slice (some ⟨A,o,none⟩) n c) (.int ik i)=if 0<=i/\i < n then some (.pointer (some ⟨A,o+i.toNat*k,none⟩)) else none:=by simp [jq,hd,hs]
theorem yG {e:TypeId} {b:Nat} {z:List ai} (hd:T.desc t=some (.slice e)) (hi:T.info e=some (k,b,z)) (len:Nat) (parts:List (Nat × ai)) (h:Heap) :
 uE T t len parts h=if len*k > 16777216 || len > 16777216 then none else (n8 (λi=>some (i*k,k)) (lO z len) parts).map λcs=>(.slice (some ⟨h.size,0,none⟩) len len,h.push (.row cs e false)):=by
 simp [uE,hd,hi]
theorem zuM (place:Nat->Option (Nat × Nat)) (cells:List ai):n8 place cells []=some cells:=rfl
theorem zuN (cells:List ai) (i k:Nat) (v:ai) (rest:List (Nat × ai)) (h1:v.cells.size=k) (h2:i*k+k<=cells.length) :
 n8 (λi=>some (i*k,k)) cells ((i,v)::rest)=n8 (λi=>some (i*k,k)) (aJ cells (i*k) v.cells.toList) rest:=by
 simp [n8,h1,h2]
theorem ez {i:Int} (h1 : -9223372036854775808<=i) (h2:i < 9223372036854775808):IntKind.i64.wrap i=i:=by
 show (if (true && decide (i % (2 ^ 64:Int) >= (2 ^ 63:Int)))=true then i % (2 ^ 64:Int) - (2 ^ 64:Int) else i % (2 ^ 64:Int))=i
 by_cases hc:i % (2 ^ 64:Int) >= (2 ^ 63:Int)
 .rw [aG (by simpa using hc)];omega
 .rw [aA (by simpa using hc)];omega

def rK (b:Bool) (h:Heap) (K:aL):Prop:=(b=true->K (.bool true) h)/\(b=false->K (.bool false) h)
theorem zv8 (b:Bool) (h:Heap) (K:aL):aK (some (.bool b)) h K=rK b h K:=by
 cases b <;> simp [aK,rK]
theorem zss (h:Heap) (K:aL):rK true h K=K (.bool true) h:=by simp [rK]
theorem zpl (h:Heap) (K:aL):rK false h K=K (.bool false) h:=by simp [rK]
theorem zxI (k:IntKind) (i:Int) (h:Heap) (K:aL):aK (some (.int k i)) h K=K (.int k i) h:=rfl
theorem zxK (s:bf) (h:Heap) (K:aL):aK (some (.string s)) h K=K (.string s) h:=rfl
theorem zxJ (a:Option Addr) (h:Heap) (K:aL):aK (some (.pointer a)) h K=K (.pointer a) h:=rfl
theorem ztG (a:Option Addr) (n c:Nat) (h:Heap) (K:aL):aK (some (.slice a n c)) h K=K (.slice a n c) h:=rfl
theorem zxG (cs:Array ai) (h:Heap) (K:aL):aK (some (.agg cs)) h K=K (.agg cs) h:=rfl
theorem zv9 (f:FuncId) (a b:Array ai) (h:Heap) (K:aL):aK (some (.func (.func f) a b)) h K=K (.func (.func f) a b) h:=rfl

theorem bU.one {o:Oper} {e:Env} {h:Heap} {K:aL} (hw:bU P T ov o e h K):∃ v h',K v h'/\∀ K':aL,K' v h'->bU P T ov o e h K':=by
 unfold bU at hw
 split at hw
 .rename_i f args fY aN
  split at hw
  .rename_i g fi ca hf
   obtain ⟨n,v,h',h1,h2⟩:=hw
   refine ⟨v,h',h2,λK' hk=>?_⟩
   unfold bU
   simp only [aN,hf]
   exact ⟨n,v,h',h1,hk⟩
  .rename_i A fi ca hf
   obtain ⟨hc,n,v,h',h1,h2⟩:=hw
   refine ⟨v,h',h2,λK' hk=>?_⟩
   unfold bU
   simp only [aN,hf]
   exact ⟨hc,n,v,h',h1,hk⟩
  .exact hw.elim
 .rename_i r name args fY aN
  split at hw
  .rename_i t x hr
   split at hw
   .rename_i f y hm
    obtain ⟨n,v,h',h1,h2⟩:=hw
    refine ⟨v,h',h2,λK' hk=>?_⟩
    unfold bU
    simp only [aN,hr,hm]
    exact ⟨n,v,h',h1,hk⟩
   .exact hw.elim
  .exact hw.elim
 .rename_i ni ph
  unfold da at hw
  split at hw
  .rename_i v h' h1
   refine ⟨v,h',hw,λK' hk=>?_⟩
   unfold bU
   split
   .rename_i f args fY aN;exact (ni f args fY aN).elim
   .rename_i r name args fY aN;exact (ph r name args fY aN).elim
   .rw [h1];exact hk
  .exact hw.elim
theorem cM.one {ops:Array Oper}:∀ (l:List Oper) (e:Env) (h:Heap) (Q:Env->Heap->Prop),cM P T ov ops l e h Q->∃ e' h',Q e' h'/\∀ Q':Env->Heap->Prop,Q' e' h'->cM P T ov ops l e h Q'
 | [],e,h,Q,hw=>⟨e,h,hw,λ_ hq=>hq⟩
 |o::l,e,h,Q,hw=>by
  simp only [cM,oF] at hw ⊢
  split at hw
  .rename_i eY
   obtain ⟨v,h1,h2,h3⟩:=bU.one hw
   obtain ⟨e',h',h4,h5⟩:=cM.one l _ _ _ h2
   exact ⟨e',h',h4,λQ' hq=>by rw [aG eY];exact h3 _ (h5 Q' hq)⟩
  .rename_i eY
   obtain ⟨e',h',h4,h5⟩:=cM.one l _ _ _ hw
   exact ⟨e',h',h4,λQ' hq=>by rw [aA eY];exact h5 Q' hq⟩
theorem bF.one {ops:Array Oper}:∀ (l:List Oper) (ks:List Nat) (e:Env) (h:Heap) (Q:List Nat->Env->Heap->Prop),bF P T ov ops l ks e h Q->∃ dD e' h',Q dD e' h'/\∀ Q':List Nat->Env->Heap->Prop,Q' dD e' h'->bF P T ov ops l ks e h Q'
 | [],ks,e,h,Q,hw=>⟨ks,e,h,hw,λ_ hq=>hq⟩
 |o::l,ks,e,h,Q,hw=>by
  simp only [bF,oF] at hw ⊢
  split at hw
  .rename_i eY
   obtain ⟨v,h1,h2,h3⟩:=bU.one hw
   obtain ⟨dD,e',h',h4,h5⟩:=bF.one l _ _ _ _ h2
   exact ⟨dD,e',h',h4,λQ' hq=>by rw [aG eY];exact h3 _ (h5 Q' hq)⟩
  .rename_i eY
   obtain ⟨dD,e',h',h4,h5⟩:=bF.one l _ _ _ _ hw
   exact ⟨dD,e',h',h4,λQ' hq=>by rw [aA eY];exact h5 Q' hq⟩
def Km (P:Program) (T:bx) (ov:Ov) (rd:Option Nat) (c:Code) (Q:Ex->Env->Heap->Prop):Ex->Env->Heap->Prop
 | .normal,e',h'=>W P T ov rd (.loop c) e' h' Q
 | .exit i,e',h'=>Q (.exit i) e' h'
 | .ret,e',h'=>Q .ret e' h'
section
variable {rd:Option Nat}
theorem W.one:∀ (c:Code) (e:Env) (h:Heap) (Q:Ex->Env->Heap->Prop),W P T ov rd c e h Q->∃ x e' h',Q x e' h'/\∀ Q':Ex->Env->Heap->Prop,Q' x e' h'->W P T ov rd c e h Q':=by
 intro c
 induction c with
 |skip=>intro e h Q hw;exact ⟨_,_,_,hw,λ_ hq=>hq⟩
 |region id ops d =>
  intro e h Q hw
  cases d with
  |false =>
   obtain ⟨e',h',h1,h2⟩:=cM.one _ _ _ _ hw
   exact ⟨_,e',h',h1,λQ' hq=>h2 _ hq⟩
  |true =>
   obtain ⟨ks,e',h',h1,h2⟩:=bF.one _ _ _ _ _ hw
   exact ⟨_,e',h',h1.2,λQ' hq=>h2 _ ⟨h1.1,hq⟩⟩
 |seq a b gZ hH =>
  intro e h Q hw
  simp only [W] at hw ⊢
  obtain ⟨x,e1,h1,h2,h3⟩:=gZ _ _ _ hw
  cases x with
  |normal =>
   obtain ⟨x,e2,h4,h5,h6⟩:=hH _ _ _ h2
   exact ⟨x,e2,h4,h5,λQ' hq=>h3 _ (h6 Q' hq)⟩
  |exit id=>exact ⟨_,e1,h1,h2,λQ' hq=>h3 _ hq⟩
  |ret=>exact ⟨_,e1,h1,h2,λQ' hq=>h3 _ hq⟩
 |cond c a b gZ hH =>
  intro e h Q hw
  simp only [W,Dp] at hw ⊢
  split at hw
  .rename_i t ht
   cases t with
   |true =>
    obtain ⟨x,e1,h1,h2,h3⟩:=gZ _ _ _ (hw.1 rfl)
    exact ⟨x,e1,h1,h2,λQ' hq=>⟨λ_=>h3 Q' hq,λhh=>nomatch hh⟩⟩
   |false =>
    obtain ⟨x,e1,h1,h2,h3⟩:=hH _ _ _ (hw.2 rfl)
    exact ⟨x,e1,h1,h2,λQ' hq=>⟨λhh=>(nomatch hh),λ_=>h3 Q' hq⟩⟩
  .exact hw.elim
 |block id c ih =>
  intro e h Q hw
  simp only [W] at hw ⊢
  obtain ⟨x,e1,h1,h2,h3⟩:=ih _ _ _ hw
  cases x with
  |normal=>exact ⟨.normal,e1,h1,h2,λQ' hq=>h3 _ hq⟩
  |exit i =>
   by_cases hi:i=id
   .simp only [aG hi] at h2
    exact ⟨.normal,e1,h1,h2,λQ' hq=>h3 _ (by simp only [aG hi];exact hq)⟩
   .simp only [aA hi] at h2
    exact ⟨.exit i,e1,h1,h2,λQ' hq=>h3 _ (by simp only [aA hi];exact hq)⟩
  |ret=>exact ⟨.ret,e1,h1,h2,λQ' hq=>h3 _ hq⟩
 |loop c ih =>
  intro e h Q hw
  simp only [W] at hw ⊢
  obtain ⟨n,hw⟩:=hw
  induction n generalizing e h with
  |zero=>exact hw.elim
  |succ n RZ =>
   simp only [dv] at hw
   obtain ⟨x,e1,h1,h2,h3⟩:=ih _ _ _ hw
   cases x with
   |normal =>
    obtain ⟨x,e2,h4,h5,h6⟩:=RZ _ _ h2
    refine ⟨x,e2,h4,h5,λQ' hq=>?_⟩
    obtain ⟨m,hm⟩:=h6 Q' hq
    exact ⟨m+1,by simp only [dv];exact h3 _ hm⟩
   |exit id=>exact ⟨.exit id,e1,h1,h2,λQ' hq=>⟨1,by simp only [dv];exact h3 _ hq⟩⟩
   |ret=>exact ⟨.ret,e1,h1,h2,λQ' hq=>⟨1,by simp only [dv];exact h3 _ hq⟩⟩
 |exit id=>intro e h Q hw;exact ⟨_,_,_,hw,λ_ hq=>hq⟩
 |ret=>intro e h Q hw;exact ⟨_,_,_,hw,λ_ hq=>hq⟩
 |label l=>intro e h Q hw;exact ⟨_,_,_,hw,λ_ hq=>hq⟩
 |rangeFunc g ps a b _ _ =>
  intro e h Q hw
  simp only [W,EY] at hw
  split at hw
  .rename_i f fi ca hg
   obtain ⟨hc,n,v,h1,h2,h3⟩:=hw
   unfold Ku at h3
   split at h3
   .rename_i x e' h' h4
    refine ⟨x,e',h',h3,λQ' hq=>?_⟩
    simp only [W,EY,hg]
    exact ⟨hc,n,v,h1,h2,by show Ku (Ej h.size e h1) Q';rw [h4];exact hq⟩
   .exact h3.elim
  .exact hw.elim
 |scope c ih=>intro e h Q hw;exact ih _ _ _ hw
 |goto l=>intro e h Q hw;exact hw.elim
 |refuse s=>intro e h Q hw;exact hw.elim
theorem Mz {c:Code} {e:Env} {h:Heap} {Q:Ex->Env->Heap->Prop} (hw:W P T ov rd c e h (Km P T ov rd c Q)):W P T ov rd (.loop c) e h Q:=by
 obtain ⟨x,e1,h1,h2,h3⟩:=W.one _ _ _ _ hw
 simp only [W]
 cases x with
 |normal =>
  simp only [Km,W] at h2
  obtain ⟨n,hn⟩:=h2
  exact ⟨n+1,by simp only [dv];exact h3 _ hn⟩
 |exit id=>exact ⟨1,by simp only [dv];exact h3 _ h2⟩
 |ret=>exact ⟨1,by simp only [dv];exact h3 _ h2⟩
theorem zl4 (c:Code) (Q:Ex->Env->Heap->Prop) (e:Env) (h:Heap):Km P T ov rd c Q .normal e h=W P T ov rd (.loop c) e h Q:=rfl
theorem zp0 (c:Code) (Q:Ex->Env->Heap->Prop) (i:Nat) (e:Env) (h:Heap):Km P T ov rd c Q (.exit i) e h=Q (.exit i) e h:=rfl
theorem ztc (c:Code) (Q:Ex->Env->Heap->Prop) (e:Env) (h:Heap):Km P T ov rd c Q .ret e h=Q .ret e h:=rfl
end
theorem cB {t:Tmp} {K:aL} {e:Env} {h:Heap} (hr:fn.results=#[.tmp t]):dM T fn K .ret e h=K (e.get t) h:=by
 simp [dM,lL,hr,rG]
theorem Ev {t:Tmp} {y:TypeId} {K:aL} {e:Env} {h:Heap} (hr:fn.results=#[.cell t y]):dM T fn K .ret e h=aK (fU T y (e.get t) h) h K:=by
 simp only [dM,lL,hr,rG,aK]
 cases fU T y (e.get t) h <;> simp
theorem zN {t u:Tmp} {K:aL} {e:Env} {h:Heap} (hr:fn.results=#[.tmp t,.tmp u]):dM T fn K .ret e h=K (.tuple #[e.get t,e.get u]) h:=by
 simp [dM,lL,hr,rG]
end
noncomputable def zs:=PLift.up (And.intro @zwj <| And.intro @zmL <| And.intro @zto <| And.intro @zqc <| And.intro @zwg <| And.intro @zzY <| And.intro @zwl <| And.intro @zvd <| And.intro @zzX <| And.intro @ztW <| And.intro @zzU <| And.intro @zzV <| And.intro @zAN <| And.intro @zyv <| And.intro @zor <| And.intro @ztx <| And.intro @zv0 <| And.intro @zls <| And.intro @zo2 <| And.intro @zr9 <| And.intro @zsL <| And.intro @zu4 <| And.intro @zl4 <| And.intro @zp0 <| And.intro @ztc <| And.intro @zAJ <| And.intro @zxM <| And.intro @zAK <| And.intro @zs5 <| And.intro @zpV <| And.intro @zBE <| And.intro @zzL <| And.intro @zs4 <| And.intro @zpU <| And.intro @zox <| And.intro @zAI <| And.intro @zzQ <| And.intro @zu8 <| And.intro @ztI <| And.intro @zwT <| And.intro @zvb <| And.intro @zzK <| And.intro @ztH <| And.intro @zqr <| And.intro @zzP <| And.intro @zvy <| And.intro @zvx <| And.intro @zqp <| And.intro @zzN <| And.intro @zqq <| And.intro @zwa <| And.intro @ztz <| And.intro @zAM <| And.intro @zoy <| And.intro @zzO <| And.intro @zBF <| And.intro @zAH <| And.intro @zBH <| And.intro @zBG <| And.intro @zwh <| And.intro @zt3 <| And.intro @zr0 <| And.intro @vL <| And.intro @zvw <| And.intro @zv8 <| And.intro @zss <| And.intro @zpl <| And.intro @zxI <| And.intro @zxK <| And.intro @zxJ <| And.intro @ztG <| And.intro @zxG <| And.intro @zv9 <| And.intro @zsl <| And.intro @zpa <| And.intro @zwb <| And.intro @zzR <| And.intro @zsr <| And.intro @zsq <| And.intro @zpm <| And.intro @zwM <| And.intro @zwL <| And.intro @zwK <| And.intro @zwJ <| And.intro @zyA <| And.intro @zyK <| And.intro @zyB <| And.intro @zyG <| And.intro @zyF <| And.intro @zyE <| And.intro @zyD <| And.intro @zyC <| And.intro @zwO <| And.intro @bo <| And.intro @Uw <| And.intro @kM <| And.intro @zui <| And.intro @zww <| @ez)
theorem syms:type_of% zs.down:=zs.down
theorem zBI (v:Value):∀ (h:Heap) (K:Value->Heap->Prop),aK (some v) h K=K v h:=λ_ _=>rfl
theorem ahq (s:ByteArray) (h:Heap) (K:Value->Heap->Prop):aK (some (.string s)) h K=K (.string s) h:=rfl
theorem ahp (n:Int) (h:Heap) (K:Value->Heap->Prop):aK (some (.int .i64 n)) h K=K (.int .i64 n) h:=rfl
theorem fe (i:Nat) (h:i < 9223372036854775807):IntKind.i64.wrap ((i:Int)+1)=((i+1:Nat):Int):=by rw [ez (by omega) (by omega)];omega
end Go.Am
