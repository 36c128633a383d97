/- Steps of the plain machine, for simp. No condition. -/
import Derived.Test.YtkgojconmeeegaaGreatDoorG2
namespace Go.Am

def Heap.lay (h:Heap) (l:List bh) (w:Nat):Heap:={ l.foldl Heap.push h with low:=w }

theorem W0 (l:List bh):∀ h:Heap,(l.foldl Heap.push h).size=h.size+l.length:=by
 induction l with
 |nil=>intro h;rfl
 |cons b l ih=>intro h;rw [List.foldl_cons,ih,Heap.size_push,List.length_cons];omega
theorem zle (h:Heap) (w A:Nat):Heap.get { h with low:=w } A=h.get A:=rfl
theorem znZ (l:List bh):∀ (h:Heap) (A:Nat),(l.foldl Heap.push h).get A=if h.size≤A then l[A - h.size]? else h.get A:=by
 induction l with
 |nil =>
  intro h A
  simp only [List.foldl_nil]
  split
  ·rename_i hA
   simp only [Heap.get,List.getElem?_nil]
   rw [if_neg (by omega)]
  ·rfl
 |cons b l ih =>
  intro h A
  rw [List.foldl_cons,ih,Heap.size_push,Heap.bu]
  by_cases h1:h.size+1≤A
  ·rw [if_pos h1,if_pos (by omega),show A - h.size=(A - (h.size+1))+1 by omega,List.getElem?_cons_succ]
  ·rw [if_neg h1]
   by_cases h2:A=h.size
   ·rw [if_pos h2,if_pos (by omega),h2,Nat.sub_self,List.getElem?_cons_zero]
   ·rw [if_neg h2,if_neg (by omega)]

section
variable (h:Heap) (l:List bh) (w:Nat)
theorem bm:(h.lay l w).size=h.size+l.length:=W0 l h
theorem UW:(h.lay l w).low=w:=rfl
theorem zza (b:bh):(h.lay l w).push b=h.lay (l++[b]) w:=by
 simp only [Heap.lay,List.foldl_append,List.foldl_cons,List.foldl_nil]
 rfl
theorem iR (i:Nat):(h.lay l w).get (h.size+i)=l[i]? := by
 unfold Heap.lay
 rw [zle,znZ,if_pos (by omega),show h.size+i - h.size=i by omega]
theorem Ek {A:Nat} (hA:A < h.size):(h.lay l w).get A=h.get A:=by
 unfold Heap.lay
 rw [zle,znZ,if_neg (by omega)]
theorem ao:h=h.lay [] h.low:=rfl
theorem UU (hw:min h.low h.size≤w):Ext h (h.lay l w):=⟨by rw [bm];omega,fun A hA=>Ek h l w hA,hw⟩
end

section
variable {P:Program} {T:bK} {ov:Ov}
section
variable (d:Option Tmp) (ty:TypeId) (pos:String) (af:Array Edge) (g:Option (Nat × Bool)) (e:Env) (h:Heap) (K:Value→Heap→Prop)
def aW (r:Option Value) (h:Heap) (K:Value→Heap→Prop):Prop:=match r with
 |some v=>K v h
 |none=>False
theorem zIu (x:Operand):cu P T ov ⟨d,.move x,ty,pos,af,g⟩ e h K=K (bn e x) h:=rfl
theorem zEp (x:Operand):cu P T ov ⟨d,.assign x,ty,pos,af,g⟩ e h K=K (bn e x) h:=rfl
def Cj (c a b:Value):Option Value:=match c with | .bool t=>some (if t then a else b)|_=>none
theorem ztt (a b:Value):Cj (.bool true) a b=some a:=rfl
theorem zqE (a b:Value):Cj (.bool false) a b=some b:=rfl
theorem vD (r:Option Value):cq (r.map fun v=>(v,h)) K=aW r h K:=by cases r <;> rfl
theorem zIv (c a b:Operand):cu P T ov ⟨d,.pick c a b,ty,pos,af,g⟩ e h K=aW (Cj (bn e c) (bn e a) (bn e b)) h K:=by
 show cq (zNC (bn e c) (bn e a) (bn e b) h) K=_
 cases bn e c <;> rfl
theorem vF (t:TypeId) {n b:Nat} {z:List Value} (hz:T.info t=some (n,b,z)):cu P T ov ⟨d,.alloc t,ty,pos,af,g⟩ e h K=K (.pointer (some ⟨h.size,0,none⟩)) (h.push (.row z t false)):=by
 show cq ((T.info t).map fun (_,_,z)=>newRow t z h) K=_
 rw [hz];rfl
theorem zOl (t:TypeId) (x:Operand):cu P T ov ⟨d,.box t x,ty,pos,af,g⟩ e h K=K (.pointer (some ⟨h.size,0,none⟩)) (h.push (.row (bn e x).cells.toList t false)):=rfl
def HT (e:Env):List (Nat × Operand)→List (Nat × Value)
 | []=>[]
 |(i,x)::l=>(i,bn e x)::HT e l
theorem zoD (l:List (Nat × Operand)):l.map (fun (i,x)=>(i,bn e x))=HT e l:=by
 induction l with
 |nil=>rfl
 |cons a l ih=>rw [List.map_cons,ih];rfl
theorem zts:HT e []=[]:=rfl
theorem zqD (i:Nat) (x:Operand) (l:List (Nat × Operand)):HT e ((i,x)::l)=(i,bn e x)::HT e l:=rfl
theorem zG5 (t:TypeId) (ps:List (Nat × Operand)):cu P T ov ⟨d,.build t ⟨ps⟩,ty,pos,af,g⟩ e h K=aW (nV T t (HT e ps)) h K:=by
 rw [← vD,← zoD];rfl
theorem zpj (t:TypeId) (n:Nat) (ps:List (Nat × Operand)):cu P T ov ⟨d,.buildSlice t n ⟨ps⟩,ty,pos,af,g⟩ e h K=cq (oZ T t n (HT e ps) h) K:=by
 rw [← zoD];rfl
theorem zIt (t:TypeId) (x:Operand):cu P T ov ⟨d,.load t x,ty,pos,af,g⟩ e h K=aW (dI T t (bn e x) h) h K:=by rw [← vD];rfl
def iw (r:Option Heap) (K:Value→Heap→Prop):Prop:=match r with
 |some h=>K undef h
 |none=>False
theorem zvx:iw (some h) K=K undef h:=rfl
theorem zG9 (t:TypeId) (x y:Operand):cu P T ov ⟨d,.store t x y,ty,pos,af,g⟩ e h K=iw (ic T t (bn e x) (bn e y) h) K:=by
 show cq ((ic T t (bn e x) (bn e y) h).map fun h'=>(undef,h')) K=_
 cases ic T t (bn e x) (bn e y) h <;> rfl
def He (v:Value):Option Value:=match v with
 | .pointer (some a)=>some (.pointer (some a))
 | .func (.func f) a b=>some (.func (.func f) a b)
 | .iface t a=>some (.iface t a)
 |_=>none
theorem zzk (a:Addr):He (.pointer (some a))=some (.pointer (some a)):=rfl
theorem zvC (f:FuncId) (a b:Array Value):He (.func (.func f) a b)=some (.func (.func f) a b):=rfl
theorem zud (x:Operand):cu P T ov ⟨d,.nilCheck x,ty,pos,af,g⟩ e h K=aW (He (bn e x)) h K:=by
 show cq (adF (bn e x) h) K=_
 generalize bn e x=v
 cases v <;> try rfl
 ·rename_i p;cases p <;> rfl
 ·rename_i f a b;cases f <;> rfl
theorem zG4 (op:BinOp) (t:TypeId) (x y:Operand) (yt:TypeId):cu P T ov ⟨d,.binOp op t x y yt,ty,pos,af,g⟩ e h K=aW (cw P T op t (bn e x) (bn e y)) h K:=by rw [← vD];rfl
theorem zub (f:FuncId) (fi ca:List Operand):cu P T ov ⟨d,.makeFunc (.func f) ⟨fi⟩ ⟨ca⟩,ty,pos,af,g⟩ e h K=K (.func (.func f) ⟨zi e fi⟩ ⟨zi e ca⟩) h:=by
 rw [← RO,← RO]
 show K (.func (.func f) (Array.map (bn e) ⟨fi⟩) (Array.map (bn e) ⟨ca⟩)) h=_
 congr 2 <;> simp
theorem zrb (t:TypeId) (l c:Operand):cu P T ov ⟨d,.makeSlice t l c,ty,pos,af,g⟩ e h K=cq (HA T t (bn e l) (bn e c) h) K:=rfl
def xH (e:Env):Option Operand→Option Value
 |some x=>some (bn e x)
 |none=>none
theorem zwe (x:Operand):xH e (some x)=some (bn e x):=rfl
theorem zwd:xH e none=none:=rfl
theorem zG8 (t:TypeId) (x:Operand) (l hi m:Option Operand):cu P T ov ⟨d,.slice t x l hi m,ty,pos,af,g⟩ e h K=aW (ki T t (bn e x) (xH e l) (xH e hi) (xH e m)) h K:=by
 rw [← vD];cases l <;> cases hi <;> cases m <;> rfl
theorem zq9 (s:TypeId) (x:Operand) (f:Nat):cu P T ov ⟨d,.fieldAddr s x f,ty,pos,af,g⟩ e h K=aW (dg T s (bn e x) f) h K:=by rw [← vD];rfl
theorem zG6 (s:TypeId) (x:Operand) (f:Nat):cu P T ov ⟨d,.field s x f,ty,pos,af,g⟩ e h K=aW (EF T s (bn e x) f) h K:=by rw [← vD];rfl
theorem zra (t:TypeId) (x i:Operand):cu P T ov ⟨d,.indexAddr t x i,ty,pos,af,g⟩ e h K=aW (fW T t (bn e x) (bn e i)) h K:=by rw [← vD];rfl
def Hl (v:Value) (i:Nat):Option Value:=match v with | .tuple vs=>vs[i]?|_=>none
theorem zt2 (vs:List Value) (i:Nat):Hl (.tuple ⟨vs⟩) i=vs[i]? := by simp [Hl]
theorem zyq (t:Operand) (i:Nat):cu P T ov ⟨d,.extract t i,ty,pos,af,g⟩ e h K=aW (Hl (bn e t) i) h K:=by
 rw [← vD]
 show cq (aem (bn e t) i h) K=_
 cases bn e t <;> rfl
theorem zIw (op:UnOp) (t:TypeId) (x:Operand):cu P T ov ⟨d,.unOp op t x,ty,pos,af,g⟩ e h K=cq (gX P e ⟨d,.unOp op t x,ty,pos,af,g⟩ h) K:=rfl
theorem zpk (s t:TypeId) (x:Operand) (h1:pS T s=false) (h2:pS T t=false):cu P T ov ⟨d,.convert s t x,ty,pos,af,g⟩ e h K=cq (gX P e ⟨d,.convert s t x,ty,pos,af,g⟩ h) K:=by
 show cq (if pS T s then (JV T s t (bn e x) h).map fun r=>(r,h) else if pS T t then (if JY T s then Ep T t (bn e x) h else none) else gX P e ⟨d,.convert s t x,ty,pos,af,g⟩ h) K=_
 rw [h1,h2]
 rfl
theorem zG7 (t:TypeId) (x i:Operand):cu P T ov ⟨d,.index t x i,ty,pos,af,g⟩ e h K=cq (gX P e ⟨d,.index t x i,ty,pos,af,g⟩ h) K:=rfl
theorem zOm (t:TypeId) (x:Operand):cu P T ov ⟨d,.call ⟨.builtin .len,#[x],#[t]⟩,ty,pos,af,g⟩ e h K=aW (bc T t (bn e x) h) h K:=by rw [← vD];rfl
theorem lG (t u:TypeId) (s x:Operand) (hs:pU T t u=true):cu P T ov ⟨d,.call ⟨.builtin .append,#[s,x],#[t,u]⟩,ty,pos,af,g⟩ e h K=cq (hZ T t (bn e s) (bn e x) h) K:=by
 show cq (if pU T t u then hZ T t (bn e s) (bn e x) h else none) K=_
 rw [if_pos hs]
theorem zIs (t u:TypeId) (s x:Operand):cu P T ov ⟨d,.call ⟨.builtin .copy,#[s,x],#[t,u]⟩,ty,pos,af,g⟩ e h K=cq (H9 T t (bn e s) (bn e x) h) K:=rfl
theorem zOo (x y:Operand) (fb:Array TypeId):cu P T ov ⟨d,.call ⟨.builtin .min,#[x,y],fb⟩,ty,pos,af,g⟩ e h K=cq (gX P e ⟨d,.call ⟨.builtin .min,#[x,y],fb⟩,ty,pos,af,g⟩ h) K:=rfl
theorem zOn (x y:Operand) (fb:Array TypeId):cu P T ov ⟨d,.call ⟨.builtin .max,#[x,y],fb⟩,ty,pos,af,g⟩ e h K=cq (gX P e ⟨d,.call ⟨.builtin .max,#[x,y],fb⟩,ty,pos,af,g⟩ h) K:=rfl
end

def EN:List Oper→Nat→Option Tmp
 | [],_=>none
 |o::_,0=>o.dst
 |_::l,n+1=>EN l n
theorem zrq:∀ (l:List Oper) (j:Nat),(l[j]?).bind (·.dst)=EN l j
 | [],j=>by simp [EN]
 |o::l,0=>by simp [EN]
 |o::l,j+1=>by rw [List.getElem?_cons_succ,zrq l j];rfl
theorem zsD (o:Oper) (l:List Oper):EN (o::l) 0=o.dst:=rfl
theorem zsC (o:Oper) (l:List Oper) (n:Nat):EN (o::l) (n+1)=EN l n:=rfl
def CQ (t:Option Tmp) (e:Env) (b:Bool):Bool:=match t with|some t=>Dc (e.get t) b|none=>false
theorem zqc (t:Tmp) (e:Env) (b:Bool):CQ (some t) e b=Dc (e.get t) b:=rfl
theorem zHa (ops:List Oper) (d:Option Tmp) (op:Op) (ty:TypeId) (pos:String) (af:Array Edge) (e:Env) (j:Nat) (b:Bool):ma ⟨ops⟩ ⟨d,op,ty,pos,af,some (j,b)⟩ e=CQ (EN ops j) e b:=by
 rw [← zrq]
 simp only [ma,List.getElem?_toArray]
 cases (ops[j]?).bind (·.dst) <;> rfl
theorem zy3:Dc (.bool true) true=true:=rfl
theorem zy0:Dc (.bool false) false=true:=rfl
theorem zy2:Dc (.bool true) false=false:=rfl
theorem zy1:Dc (.bool false) true=false:=rfl

def kW (b:Option bh) (o:Nat):Option Value:=match b with
 |some (.row cs _ _)=>cs[o]?
 |_=>none
theorem zuA (cs:List Value) (e:TypeId) (r:Bool) (o:Nat):kW (some (.row cs e r)) o=cs[o]? := rfl
def lM (b:Option bh) (o n:Nat):Option Value:=match b with
 |some (.row cs _ _)=>(cut cs o n).map fun l=>.agg l.toArray
 |_=>none
theorem zyJ (cs:List Value) (e:TypeId) (r:Bool) (o n:Nat):lM (some (.row cs e r)) o n=(cut cs o n).map fun l=>.agg l.toArray:=rfl
theorem na {t:TypeId} {A o:Nat} {h:Heap} (hg:aq T t=some false):dI T t (.pointer (some ⟨A,o,none⟩)) h=kW (h.get A) o:=by
 simp only [dI,hg,Option.bind_some,gQ]
 cases h.get A with
 |none=>rfl
 |some b =>
  cases b with
  |dead=>rfl
  |map es c=>rfl
  |loop _ _ _ _ _ _=>rfl
  |row cs e r =>
   simp only [cut,kW,Bool.false_eq_true,if_false]
   split
   ·rename_i hl
    simp [List.getElem?_drop]
   ·rename_i hl
    rw [List.getElem?_eq_none (by omega)];rfl
theorem CI {t:TypeId} {A o n:Nat} {h:Heap} (hg:aq T t=some true) (hs:bJ T t=some n):dI T t (.pointer (some ⟨A,o,none⟩)) h=lM (h.get A) o n:=by
 simp only [dI,hg,hs,Option.bind_some,gQ,if_true]
 cases h.get A with
 |none=>rfl
 |some b=>cases b <;> rfl
theorem zzc {t:TypeId} {s:ByteArray} {h:Heap} (hd:T.desc t=some .string):bc T t (.string s) h=some (.int .i64 s.size):=by simp [bc,hd]
theorem r9 {t e:TypeId} {a:Option Addr} {n c:Nat} {h:Heap} (hd:T.desc t=some (.slice e)):bc T t (.slice a n c) h=some (.int .i64 n):=by simp [bc,hd]
theorem zGe {t e:TypeId} {m k:Nat} {A o:Nat} {ik:IntKind} {i:Int} (hd:T.desc t=some (.array m e)) (hs:bJ T e=some k) :
 fW T t (.pointer (some ⟨A,o,none⟩)) (.int ik i)=if 0≤i∧i < m then some (.pointer (some ⟨A,o+i.toNat*k,none⟩)) else none:=by simp [fW,hd,hs]
theorem r8 {t e:TypeId} {k:Nat} {A o n c:Nat} {ik:IntKind} {i:Int} (hd:T.desc t=some (.slice e)) (hs:bJ T e=some k) :
 fW T t (.slice (some ⟨A,o,none⟩) n c) (.int ik i)=if 0≤i∧i < n then some (.pointer (some ⟨A,o+i.toNat*k,none⟩)) else none:=by simp [fW,hd,hs]
theorem vR {t e:TypeId} {k b:Nat} {z:List Value} (hd:T.desc t=some (.slice e)) (hi:T.info e=some (k,b,z)) (len:Nat) (parts:List (Nat × Value)) (h:Heap) :
 oZ T t len parts h=if len*k > 16777216 || len > 16777216 then none else (mb (fun i=>some (i*k,k)) (kb z len) parts).map fun cs=>(.slice (some ⟨h.size,0,none⟩) len len,h.push (.row cs e false)):=by
 simp [oZ,hd,hi]
theorem zva (place:Nat→Option (Nat × Nat)) (cells:List Value):mb place cells []=some cells:=rfl
theorem zvb (cells:List Value) (i k:Nat) (v:Value) (rest:List (Nat × Value)) (h1:v.cells.size=k) (h2:i*k+k≤cells.length) :
 mb (fun i=>some (i*k,k)) cells ((i,v)::rest)=mb (fun i=>some (i*k,k)) (az cells (i*k) v.cells.toList) rest:=by
 simp [mb,h1,h2]
theorem wrap_i64 {i:Int} (h1 : -9223372036854775808≤i) (h2:i < 9223372036854775808):IntKind.i64.wrap i=i:=by
 show (if (true && decide (i % (2 ^ 64:Int) ≥ (2 ^ 63:Int)))=true then i % (2 ^ 64:Int) - (2 ^ 64:Int) else i % (2 ^ 64:Int))=i
 by_cases hc:i % (2 ^ 64:Int) ≥ (2 ^ 63:Int)
 ·rw [if_pos (by simpa using hc)];omega
 ·rw [if_neg (by simpa using hc)];omega
theorem aY {t:TypeId} {cs:List Value} {o:Nat} (hg:aq T t=some false):aN T t cs o=cs[o]? := by simp [aN,hg]

/-! ### A comparison parts the ways at once -/
def rB (b:Bool) (h:Heap) (K:Value→Heap→Prop):Prop:=(b=true→K (.bool true) h)∧(b=false→K (.bool false) h)
theorem zyl (b:Bool) (h:Heap) (K:Value→Heap→Prop):aW (some (.bool b)) h K=rB b h K:=by
 cases b <;> simp [aW,rB]
theorem zlc (h:Heap) (K:Value→Heap→Prop):rB true h K=K (.bool true) h:=by simp [rB]
theorem WJ (h:Heap) (K:Value→Heap→Prop):rB false h K=K (.bool false) h:=by simp [rB]
theorem zEl (k:IntKind) (i:Int) (h:Heap) (K:Value→Heap→Prop):aW (some (.int k i)) h K=K (.int k i) h:=rfl
theorem zEn (s:ByteArray) (h:Heap) (K:Value→Heap→Prop):aW (some (.string s)) h K=K (.string s) h:=rfl
theorem zEm (a:Option Addr) (h:Heap) (K:Value→Heap→Prop):aW (some (.pointer a)) h K=K (.pointer a) h:=rfl
theorem zt9 (a:Option Addr) (n c:Nat) (h:Heap) (K:Value→Heap→Prop):aW (some (.slice a n c)) h K=K (.slice a n c) h:=rfl
theorem zEk (cs:Array Value) (h:Heap) (K:Value→Heap→Prop):aW (some (.agg cs)) h K=K (.agg cs) h:=rfl
theorem zym (f:FuncId) (a b:Array Value) (h:Heap) (K:Value→Heap→Prop):aW (some (.func (.func f) a b)) h K=K (.func (.func f) a b) h:=rfl

/-! ### One round more -/
theorem cu.one {o:Oper} {e:Env} {h:Heap} {K:Value→Heap→Prop} (hw:cu P T ov o e h K):∃ v h',K v h'∧∀ K':Value→Heap→Prop,K' v h'→cu P T ov o e h K':=by
 unfold cu at hw
 split at hw
 ·rename_i f args fb aV
  split at hw
  ·rename_i g fi ca hf
   obtain ⟨n,v,h',h1,h2⟩:=hw
   refine ⟨v,h',h2,fun K' hk=>?_⟩
   unfold cu
   simp only [aV,hf]
   exact ⟨n,v,h',h1,hk⟩
  ·rename_i A fi ca hf
   obtain ⟨hc,n,v,h',h1,h2⟩:=hw
   refine ⟨v,h',h2,fun K' hk=>?_⟩
   unfold cu
   simp only [aV,hf]
   exact ⟨hc,n,v,h',h1,hk⟩
  ·exact hw.elim
 ·rename_i r name args fb aV
  split at hw
  ·rename_i t x hr
   split at hw
   ·rename_i f y hm
    obtain ⟨n,v,h',h1,h2⟩:=hw
    refine ⟨v,h',h2,fun K' hk=>?_⟩
    unfold cu
    simp only [aV,hr,hm]
    exact ⟨n,v,h',h1,hk⟩
   ·exact hw.elim
  ·exact hw.elim
 ·rename_i lR GA
  unfold cq at hw
  split at hw
  ·rename_i v h' h1
   refine ⟨v,h',hw,fun K' hk=>?_⟩
   unfold cu
   split
   ·rename_i f args fb aV;exact (lR f args fb aV).elim
   ·rename_i r name args fb aV;exact (GA r name args fb aV).elim
   ·rw [h1];exact hk
  ·exact hw.elim
theorem dh.one {ops:Array Oper}:∀ (l:List Oper) (e:Env) (h:Heap) (Q:Env→Heap→Prop),dh P T ov ops l e h Q→∃ e' h',Q e' h'∧∀ Q':Env→Heap→Prop,Q' e' h'→dh P T ov ops l e h Q'
 | [],e,h,Q,hw=>⟨e,h,hw,fun _ hq=>hq⟩
 |o::l,e,h,Q,hw=>by
  simp only [dh,sq] at hw ⊢
  split at hw
  ·rename_i je
   obtain ⟨v,h1,h2,h3⟩:=cu.one hw
   obtain ⟨e',h',h4,h5⟩:=dh.one l _ _ _ h2
   exact ⟨e',h',h4,fun Q' hq=>by rw [if_pos je];exact h3 _ (h5 Q' hq)⟩
  ·rename_i je
   obtain ⟨e',h',h4,h5⟩:=dh.one l _ _ _ hw
   exact ⟨e',h',h4,fun Q' hq=>by rw [if_neg je];exact h5 Q' hq⟩
theorem cK.one {ops:Array Oper}:∀ (l:List Oper) (ks:List Nat) (e:Env) (h:Heap) (Q:List Nat→Env→Heap→Prop),cK P T ov ops l ks e h Q→∃ gA e' h',Q gA e' h'∧∀ Q':List Nat→Env→Heap→Prop,Q' gA e' h'→cK P T ov ops l ks e h Q'
 | [],ks,e,h,Q,hw=>⟨ks,e,h,hw,fun _ hq=>hq⟩
 |o::l,ks,e,h,Q,hw=>by
  simp only [cK,sq] at hw ⊢
  split at hw
  ·rename_i je
   obtain ⟨v,h1,h2,h3⟩:=cu.one hw
   obtain ⟨gA,e',h',h4,h5⟩:=cK.one l _ _ _ _ h2
   exact ⟨gA,e',h',h4,fun Q' hq=>by rw [if_pos je];exact h3 _ (h5 Q' hq)⟩
  ·rename_i je
   obtain ⟨gA,e',h',h4,h5⟩:=cK.one l _ _ _ _ hw
   exact ⟨gA,e',h',h4,fun Q' hq=>by rw [if_neg je];exact h5 Q' hq⟩
def Sz (P:Program) (T:bK) (ov:Ov) (rd:Option Nat) (c:Code) (Q:Ex→Env→Heap→Prop):Ex→Env→Heap→Prop
 | .normal,e',h'=>W P T ov rd (.loop c) e' h' Q
 | .exit i,e',h'=>Q (.exit i) e' h'
 | .ret,e',h'=>Q .ret e' h'
section
variable {rd:Option Nat}
theorem W.one:∀ (c:Code) (e:Env) (h:Heap) (Q:Ex→Env→Heap→Prop),W P T ov rd c e h Q→∃ x e' h',Q x e' h'∧∀ Q':Ex→Env→Heap→Prop,Q' x e' h'→W P T ov rd c e h Q':=by
 intro c
 induction c with
 |skip=>intro e h Q hw;exact ⟨_,_,_,hw,fun _ hq=>hq⟩
 |region id ops d =>
  intro e h Q hw
  cases d with
  |false =>
   obtain ⟨e',h',h1,h2⟩:=dh.one _ _ _ _ hw
   exact ⟨_,e',h',h1,fun Q' hq=>h2 _ hq⟩
  |true =>
   obtain ⟨ks,e',h',h1,h2⟩:=cK.one _ _ _ _ _ hw
   exact ⟨_,e',h',h1.2,fun Q' hq=>h2 _ ⟨h1.1,hq⟩⟩
 |seq a b iN iO =>
  intro e h Q hw
  simp only [W] at hw ⊢
  obtain ⟨x,e1,h1,h2,h3⟩:=iN _ _ _ hw
  cases x with
  |normal =>
   obtain ⟨x,e2,h4,h5,h6⟩:=iO _ _ _ h2
   exact ⟨x,e2,h4,h5,fun Q' hq=>h3 _ (h6 Q' hq)⟩
  |exit id=>exact ⟨_,e1,h1,h2,fun Q' hq=>h3 _ hq⟩
  |ret=>exact ⟨_,e1,h1,h2,fun Q' hq=>h3 _ hq⟩
 |cond c a b iN iO =>
  intro e h Q hw
  simp only [W,Dg] at hw ⊢
  split at hw
  ·rename_i t ht
   cases t with
   |true =>
    obtain ⟨x,e1,h1,h2,h3⟩:=iN _ _ _ (hw.1 rfl)
    exact ⟨x,e1,h1,h2,fun Q' hq=>⟨fun _=>h3 Q' hq,fun hh=>nomatch hh⟩⟩
   |false =>
    obtain ⟨x,e1,h1,h2,h3⟩:=iO _ _ _ (hw.2 rfl)
    exact ⟨x,e1,h1,h2,fun Q' hq=>⟨fun hh=>(nomatch hh),fun _=>h3 Q' hq⟩⟩
  ·exact hw.elim
 |block id c ih =>
  intro e h Q hw
  simp only [W] at hw ⊢
  obtain ⟨x,e1,h1,h2,h3⟩:=ih _ _ _ hw
  cases x with
  |normal=>exact ⟨.normal,e1,h1,h2,fun Q' hq=>h3 _ hq⟩
  |exit i =>
   by_cases hi:i=id
   ·simp only [if_pos hi] at h2
    exact ⟨.normal,e1,h1,h2,fun Q' hq=>h3 _ (by simp only [if_pos hi];exact hq)⟩
   ·simp only [if_neg hi] at h2
    exact ⟨.exit i,e1,h1,h2,fun Q' hq=>h3 _ (by simp only [if_neg hi];exact hq)⟩
  |ret=>exact ⟨.ret,e1,h1,h2,fun Q' hq=>h3 _ hq⟩
 |loop c ih =>
  intro e h Q hw
  simp only [W] at hw ⊢
  obtain ⟨n,hw⟩:=hw
  induction n generalizing e h with
  |zero=>exact hw.elim
  |succ n OL =>
   simp only [dJ] at hw
   obtain ⟨x,e1,h1,h2,h3⟩:=ih _ _ _ hw
   cases x with
   |normal =>
    obtain ⟨x,e2,h4,h5,h6⟩:=OL _ _ h2
    refine ⟨x,e2,h4,h5,fun Q' hq=>?_⟩
    obtain ⟨m,hm⟩:=h6 Q' hq
    exact ⟨m+1,by simp only [dJ];exact h3 _ hm⟩
   |exit id=>exact ⟨.exit id,e1,h1,h2,fun Q' hq=>⟨1,by simp only [dJ];exact h3 _ hq⟩⟩
   |ret=>exact ⟨.ret,e1,h1,h2,fun Q' hq=>⟨1,by simp only [dJ];exact h3 _ hq⟩⟩
 |exit id=>intro e h Q hw;exact ⟨_,_,_,hw,fun _ hq=>hq⟩
 |ret=>intro e h Q hw;exact ⟨_,_,_,hw,fun _ hq=>hq⟩
 |label l=>intro e h Q hw;exact ⟨_,_,_,hw,fun _ hq=>hq⟩
 |rangeFunc g ps a b _ _ =>
  intro e h Q hw
  simp only [W,ze] at hw
  split at hw
  ·rename_i f fi ca hg
   obtain ⟨hc,n,v,h1,h2,h3⟩:=hw
   unfold H7 at h3
   split at h3
   ·rename_i x e' h' h4
    refine ⟨x,e',h',h3,fun Q' hq=>?_⟩
    simp only [W,ze,hg]
    exact ⟨hc,n,v,h1,h2,by show H7 (yX h.size e h1) Q';rw [h4];exact hq⟩
   ·exact h3.elim
  ·exact hw.elim
 |scope c ih=>intro e h Q hw;exact ih _ _ _ hw
 |goto l=>intro e h Q hw;exact hw.elim
 |refuse s=>intro e h Q hw;exact hw.elim
theorem RN {c:Code} {e:Env} {h:Heap} {Q:Ex→Env→Heap→Prop} (hw:W P T ov rd c e h (Sz P T ov rd c Q)):W P T ov rd (.loop c) e h Q:=by
 obtain ⟨x,e1,h1,h2,h3⟩:=W.one _ _ _ _ hw
 simp only [W]
 cases x with
 |normal =>
  simp only [Sz,W] at h2
  obtain ⟨n,hn⟩:=h2
  exact ⟨n+1,by simp only [dJ];exact h3 _ hn⟩
 |exit id=>exact ⟨1,by simp only [dJ];exact h3 _ h2⟩
 |ret=>exact ⟨1,by simp only [dJ];exact h3 _ h2⟩
theorem zmG (c:Code) (Q:Ex→Env→Heap→Prop) (e:Env) (h:Heap):Sz P T ov rd c Q .normal e h=W P T ov rd (.loop c) e h Q:=rfl
theorem zqK (c:Code) (Q:Ex→Env→Heap→Prop) (i:Nat) (e:Env) (h:Heap):Sz P T ov rd c Q (.exit i) e h=Q (.exit i) e h:=rfl
theorem ztA (c:Code) (Q:Ex→Env→Heap→Prop) (e:Env) (h:Heap):Sz P T ov rd c Q .ret e h=Q .ret e h:=rfl
end
theorem bS {fn:Func} {t:Tmp} {K:Value→Heap→Prop} {e:Env} {h:Heap} (hr:fn.results=#[.tmp t]):aC T fn K .ret e h=K (e.get t) h:=by
 simp [aC,mj,hr,si]
theorem zyV {fn:Func} {t:Tmp} {y:TypeId} {K:Value→Heap→Prop} {e:Env} {h:Heap} (hr:fn.results=#[.cell t y]):aC T fn K .ret e h=aW (dI T y (e.get t) h) h K:=by
 simp only [aC,mj,hr,si,aW]
 cases dI T y (e.get t) h <;> simp
theorem qS {fn:Func} {t u:Tmp} {K:Value→Heap→Prop} {e:Env} {h:Heap} (hr:fn.results=#[.tmp t,.tmp u]):aC T fn K .ret e h=K (.tuple #[e.get t,e.get u]) h:=by
 simp [aC,mj,hr,si]
end
noncomputable def Eh:=PLift.up (And.intro @zyx <| And.intro @zm4 <| And.intro @ztN <| And.intro @zqV <| And.intro @zyu <| And.intro @zHk <| And.intro @zyy <| And.intro @zvE <| And.intro @OP <| And.intro @zum <| And.intro @zHg <| And.intro @zHh <| And.intro @zIx <| And.intro @zEV <| And.intro @zpg <| And.intro @zt0 <| And.intro @zyc <| And.intro @zlU <| And.intro @zpx <| And.intro @zsl <| And.intro @zsT <| And.intro @zvt <| And.intro @zmG <| And.intro @zqK <| And.intro @ztA <| And.intro @zIu <| And.intro @zEp <| And.intro @zIv <| And.intro @ztt <| And.intro @zqE <| And.intro @zOl <| And.intro @zG5 <| And.intro @zts <| And.intro @zqD <| And.intro @zpj <| And.intro @zIt <| And.intro @zG9 <| And.intro @zvx <| And.intro @zud <| And.intro @zzk <| And.intro @zvC <| And.intro @zG4 <| And.intro @zub <| And.intro @zrb <| And.intro @zG8 <| And.intro @zwe <| And.intro @zwd <| And.intro @zq9 <| And.intro @zG6 <| And.intro @zra <| And.intro @zyq <| And.intro @zt2 <| And.intro @zIw <| And.intro @zpk <| And.intro @zG7 <| And.intro @zOm <| And.intro @zIs <| And.intro @zOo <| And.intro @zOn <| And.intro @zyv <| And.intro @zup <| And.intro @zsg <| And.intro @rj <| And.intro @zwc <| And.intro @zyl <| And.intro @zlc <| And.intro @WJ <| And.intro @zEl <| And.intro @zEn <| And.intro @zEm <| And.intro @zt9 <| And.intro @zEk <| And.intro @zym <| And.intro @zsx <| And.intro @zpH <| And.intro @zyr <| And.intro @zHa <| And.intro @zsD <| And.intro @zsC <| And.intro @zqc <| And.intro @zy3 <| And.intro @zy2 <| And.intro @zy1 <| And.intro @zy0 <| And.intro @zFb <| And.intro @zFm <| And.intro @zFd <| And.intro @zFi <| And.intro @zFh <| And.intro @zFg <| And.intro @zFf <| And.intro @zFe <| And.intro @zza <| And.intro @bm <| And.intro @UW <| And.intro @iR <| And.intro @zuA <| And.intro @zyJ <| @wrap_i64)
theorem syms:type_of% Eh.down:=Eh.down
theorem bY (v:Value):∀ (h:Heap) (K:Value→Heap→Prop),aW (some v) h K=K v h:=fun _ _=>rfl
theorem fP (s:ByteArray) (h:Heap) (K:Value→Heap→Prop):aW (some (.string s)) h K=K (.string s) h:=rfl
theorem py (n:Int) (h:Heap) (K:Value→Heap→Prop):aW (some (.int .i64 n)) h K=K (.int .i64 n) h:=rfl
theorem eb (i:Nat) (h:i < 9223372036854775807):IntKind.i64.wrap ((i:Int)+1)=((i+1:Nat):Int):=by rw [wrap_i64 (by omega) (by omega)];omega
end Go.Am
