/- Steps of the plain machine, for simp. No condition. -/
import Derived.Test.YtdplfgoifjjniaaGreatDoorG2
namespace Go.Am

def Heap.lay (h:Heap) (l:List Blk) (w:Nat):Heap:={ l.foldl Heap.push h with low:=w }

theorem zfs (l:List Blk):∀ h:Heap,(l.foldl Heap.push h).size=h.size+l.length:=by
 induction l with
 |nil=>intro h;rfl
 |cons b l ih=>intro h;rw [List.foldl_cons,ih,Heap.size_push,List.length_cons];omega
theorem zj1 (h:Heap) (w A:Nat):Heap.get { h with low:=w } A=h.get A:=rfl
theorem zmh (l:List Blk):∀ (h:Heap) (A:Nat),(l.foldl Heap.push h).get A=if h.size≤A then l[A - h.size]? else h.get A:=by
 induction l with
 |nil =>
  intro h A
  simp only [List.foldl_nil]
  split
  ·rename_i hA
   simp only [Heap.get,List.getElem?_nil]
   rw [if_neg (by omega)]
  ·rfl
 |cons b l ih =>
  intro h A
  rw [List.foldl_cons,ih,Heap.size_push,Heap.get_push]
  by_cases h1:h.size+1≤A
  ·rw [if_pos h1,if_pos (by omega),show A - h.size=(A - (h.size+1))+1 by omega,List.getElem?_cons_succ]
  ·rw [if_neg h1]
   by_cases h2:A=h.size
   ·rw [if_pos h2,if_pos (by omega),h2,Nat.sub_self,List.getElem?_cons_zero]
   ·rw [if_neg h2,if_neg (by omega)]

section
variable (h:Heap) (l:List Blk) (w:Nat)
theorem zad:(h.lay l w).size=h.size+l.length:=zfs l h
theorem zod:(h.lay l w).low=w:=rfl
theorem zvk (b:Blk):(h.lay l w).push b=h.lay (l++[b]) w:=by
 simp only [Heap.lay,List.foldl_append,List.foldl_cons,List.foldl_nil]
 rfl
theorem zbd (i:Nat):(h.lay l w).get (h.size+i)=l[i]? := by
 unfold Heap.lay
 rw [zj1,zmh,if_pos (by omega),show h.size+i - h.size=i by omega]
theorem za9 {A:Nat} (hA:A < h.size):(h.lay l w).get A=h.get A:=by
 unfold Heap.lay
 rw [zj1,zmh,if_neg (by omega)]
theorem zaa:h=h.lay [] h.low:=rfl
theorem zis (hw:min h.low h.size≤w):Ext h (h.lay l w):=⟨by rw [zad];omega,fun A hA=>za9 h l w hA,hw⟩
theorem Ext.at {h':Heap} (e:Ext (h.lay l w) h') (i:Nat) {b:Blk} (hi:l[i]? = some b):h'.get (h.size+i)=some b:=by
 have:i < l.length:=(List.getElem?_eq_some_iff.1 hi).1
 rw [e.get _ (by rw [zad];omega),zbd,hi]
theorem Ext.under {h':Heap} (e:Ext (h.lay l w) h') (hw:min h.low h.size≤w):Ext h h':=(zis h l w hw).trans e
end

section
variable {P:Program} {T:Tab} {ov:Ov}
section
variable (d:Option Tmp) (ty:TypeId) (pos:String) (af:Array Edge) (g:Option (Nat × Bool)) (e:Env) (h:Heap) (K:Value→Heap→Prop)
def valE (r:Option Value) (h:Heap) (K:Value→Heap→Prop):Prop:=match r with
 |some v=>K v h
 |none=>False
theorem zA8 (x:Operand):WOp P T ov ⟨d,.move x,ty,pos,af,g⟩ e h K=K (zab e x) h:=rfl
theorem zxe (x:Operand):WOp P T ov ⟨d,.assign x,ty,pos,af,g⟩ e h K=K (zab e x) h:=rfl
def zzf (c a b:Value):Option Value:=match c with | .bool t=>some (if t then a else b)|_=>none
theorem zqQ (a b:Value):zzf (.bool true) a b=some a:=rfl
theorem zos (a b:Value):zzf (.bool false) a b=some b:=rfl
theorem zcg (r:Option Value):optE (r.map fun v=>(v,h)) K=valE r h K:=by cases r <;> rfl
theorem zA9 (c a b:Operand):WOp P T ov ⟨d,.pick c a b,ty,pos,af,g⟩ e h K=valE (zzf (zab e c) (zab e a) (zab e b)) h K:=by
 show optE (zEj (zab e c) (zab e a) (zab e b) h) K=_
 cases zab e c <;> rfl
theorem zdV (t:TypeId) {n b:Nat} {z:List Value} (hz:T.info t=some (n,b,z)):WOp P T ov ⟨d,.alloc t,ty,pos,af,g⟩ e h K=K (.pointer (some ⟨h.size,0,none⟩)) (h.push (.row z t false)):=by
 show optE ((T.info t).map fun (_,_,z)=>newRow t z h) K=_
 rw [hz];rfl
theorem zGK (t:TypeId) (x:Operand):WOp P T ov ⟨d,.box t x,ty,pos,af,g⟩ e h K=K (.pointer (some ⟨h.size,0,none⟩)) (h.push (.row (zab e x).cells.toList t false)):=rfl
def ziD (e:Env):List (Nat × Operand)→List (Nat × Value)
 | []=>[]
 |(i,x)::l=>(i,zab e x)::ziD e l
theorem zmH (l:List (Nat × Operand)):l.map (fun (i,x)=>(i,zab e x))=ziD e l:=by
 induction l with
 |nil=>rfl
 |cons a l ih=>rw [List.map_cons,ih];rfl
theorem zqP:ziD e []=[]:=rfl
theorem zor (i:Nat) (x:Operand) (l:List (Nat × Operand)):ziD e ((i,x)::l)=(i,zab e x)::ziD e l:=rfl
theorem zzF (t:TypeId) (ps:List (Nat × Operand)):WOp P T ov ⟨d,.build t ⟨ps⟩,ty,pos,af,g⟩ e h K=valE (zbZ T t (ziD e ps)) h K:=by
 rw [← zcg,← zmH];rfl
theorem znj (t:TypeId) (n:Nat) (ps:List (Nat × Operand)):WOp P T ov ⟨d,.buildSlice t n ⟨ps⟩,ty,pos,af,g⟩ e h K=optE (zaB T t n (ziD e ps) h) K:=by
 rw [← zmH];rfl
theorem zA7 (t:TypeId) (x:Operand):WOp P T ov ⟨d,.load t x,ty,pos,af,g⟩ e h K=valE (zaL T t (zab e x) h) h K:=by rw [← zcg];rfl
def memE (r:Option Heap) (K:Value→Heap→Prop):Prop:=match r with
 |some h=>K undef h
 |none=>False
theorem zsF:memE (some h) K=K undef h:=rfl
theorem zzJ (t:TypeId) (x y:Operand):WOp P T ov ⟨d,.store t x y,ty,pos,af,g⟩ e h K=memE (zaZ T t (zab e x) (zab e y) h) K:=by
 show optE ((zaZ T t (zab e x) (zab e y) h).map fun h'=>(undef,h')) K=_
 cases zaZ T t (zab e x) (zab e y) h <;> rfl
def nilV (v:Value):Option Value:=match v with
 | .pointer (some a)=>some (.pointer (some a))
 | .func (.func f) a b=>some (.func (.func f) a b)
 | .iface t a=>some (.iface t a)
 |_=>none
theorem zvr (a:Addr):nilV (.pointer (some a))=some (.pointer (some a)):=rfl
theorem zsJ (f:FuncId) (a b:Array Value):nilV (.func (.func f) a b)=some (.func (.func f) a b):=rfl
theorem zru (x:Operand):WOp P T ov ⟨d,.nilCheck x,ty,pos,af,g⟩ e h K=valE (nilV (zab e x)) h K:=by
 show optE (nilE (zab e x) h) K=_
 generalize zab e x=v
 cases v <;> try rfl
 ·rename_i p;cases p <;> rfl
 ·rename_i f a b;cases f <;> rfl
theorem zzE (op:BinOp) (t:TypeId) (x y:Operand) (yt:TypeId):WOp P T ov ⟨d,.binOp op t x y yt,ty,pos,af,g⟩ e h K=valE (binA P T op t (zab e x) (zab e y)) h K:=by rw [← zcg];rfl
theorem zrs (f:FuncId) (fi ca:List Operand):WOp P T ov ⟨d,.makeFunc (.func f) ⟨fi⟩ ⟨ca⟩,ty,pos,af,g⟩ e h K=K (.func (.func f) ⟨zjp e fi⟩ ⟨zjp e ca⟩) h:=by
 rw [← zge,← zge]
 show K (.func (.func f) (Array.map (zab e) ⟨fi⟩) (Array.map (zab e) ⟨ca⟩)) h=_
 congr 2 <;> simp
theorem zo0 (t:TypeId) (l c:Operand):WOp P T ov ⟨d,.makeSlice t l c,ty,pos,af,g⟩ e h K=optE (zcQ T t (zab e l) (zab e c) h) K:=rfl
def optV (e:Env):Option Operand→Option Value
 |some x=>some (zab e x)
 |none=>none
theorem ztc (x:Operand):optV e (some x)=some (zab e x):=rfl
theorem ztb:optV e none=none:=rfl
theorem zzI (t:TypeId) (x:Operand) (l hi m:Option Operand):WOp P T ov ⟨d,.slice t x l hi m,ty,pos,af,g⟩ e h K=valE (zbl T t (zab e x) (optV e l) (optV e hi) (optV e m)) h K:=by
 rw [← zcg];cases l <;> cases hi <;> cases m <;> rfl
theorem zoY (s:TypeId) (x:Operand) (f:Nat):WOp P T ov ⟨d,.fieldAddr s x f,ty,pos,af,g⟩ e h K=valE (zak T s (zab e x) f) h K:=by rw [← zcg];rfl
theorem zzG (s:TypeId) (x:Operand) (f:Nat):WOp P T ov ⟨d,.field s x f,ty,pos,af,g⟩ e h K=valE (zih T s (zab e x) f) h K:=by rw [← zcg];rfl
theorem zoZ (t:TypeId) (x i:Operand):WOp P T ov ⟨d,.indexAddr t x i,ty,pos,af,g⟩ e h K=valE (zao T t (zab e x) (zab e i)) h K:=by rw [← zcg];rfl
def tupV (v:Value) (i:Nat):Option Value:=match v with | .tuple vs=>vs[i]?|_=>none
theorem zrl (vs:List Value) (i:Nat):tupV (.tuple ⟨vs⟩) i=vs[i]? := by simp [tupV]
theorem zuE (t:Operand) (i:Nat):WOp P T ov ⟨d,.extract t i,ty,pos,af,g⟩ e h K=valE (tupV (zab e t) i) h K:=by
 rw [← zcg]
 show optE (tupE (zab e t) i h) K=_
 cases zab e t <;> rfl
theorem zBa (op:UnOp) (t:TypeId) (x:Operand):WOp P T ov ⟨d,.unOp op t x,ty,pos,af,g⟩ e h K=optE (zaR P e ⟨d,.unOp op t x,ty,pos,af,g⟩ h) K:=rfl
theorem znk (s t:TypeId) (x:Operand) (h1:zbU T s=false) (h2:zbU T t=false):WOp P T ov ⟨d,.convert s t x,ty,pos,af,g⟩ e h K=optE (zaR P e ⟨d,.convert s t x,ty,pos,af,g⟩ h) K:=by
 show optE (if zbU T s then (zfp T s t (zab e x) h).map fun r=>(r,h) else if zbU T t then (if zft T s then zdP T t (zab e x) h else none) else zaR P e ⟨d,.convert s t x,ty,pos,af,g⟩ h) K=_
 rw [h1,h2]
 rfl
theorem zzH (t:TypeId) (x i:Operand):WOp P T ov ⟨d,.index t x i,ty,pos,af,g⟩ e h K=optE (zaR P e ⟨d,.index t x i,ty,pos,af,g⟩ h) K:=rfl
theorem zGL (t:TypeId) (x:Operand):WOp P T ov ⟨d,.call ⟨.builtin .len,#[x],#[t]⟩,ty,pos,af,g⟩ e h K=valE (lenA T t (zab e x) h) h K:=by rw [← zcg];rfl
theorem zcU (t u:TypeId) (s x:Operand) (hs:zed T t u=true):WOp P T ov ⟨d,.call ⟨.builtin .append,#[s,x],#[t,u]⟩,ty,pos,af,g⟩ e h K=optE (zaH T t (zab e s) (zab e x) h) K:=by
 show optE (if zed T t u then zaH T t (zab e s) (zab e x) h else none) K=_
 rw [if_pos hs]
theorem zA6 (t u:TypeId) (s x:Operand):WOp P T ov ⟨d,.call ⟨.builtin .copy,#[s,x],#[t,u]⟩,ty,pos,af,g⟩ e h K=optE (znH T t (zab e s) (zab e x) h) K:=rfl
theorem zGN (x y:Operand) (ats:Array TypeId):WOp P T ov ⟨d,.call ⟨.builtin .min,#[x,y],ats⟩,ty,pos,af,g⟩ e h K=optE (zaR P e ⟨d,.call ⟨.builtin .min,#[x,y],ats⟩,ty,pos,af,g⟩ h) K:=rfl
theorem zGM (x y:Operand) (ats:Array TypeId):WOp P T ov ⟨d,.call ⟨.builtin .max,#[x,y],ats⟩,ty,pos,af,g⟩ e h K=optE (zaR P e ⟨d,.call ⟨.builtin .max,#[x,y],ats⟩,ty,pos,af,g⟩ h) K:=rfl
end

def zlY:List Oper→Nat→Option Tmp
 | [],_=>none
 |o::_,0=>o.dst
 |_::l,n+1=>zlY l n
theorem zpe:∀ (l:List Oper) (j:Nat),(l[j]?).bind (·.dst)=zlY l j
 | [],j=>by simp [zlY]
 |o::l,0=>by simp [zlY]
 |o::l,j+1=>by rw [List.getElem?_cons_succ,zpe l j];rfl
theorem zp9 (o:Oper) (l:List Oper):zlY (o::l) 0=o.dst:=rfl
theorem zp8 (o:Oper) (l:List Oper) (n:Nat):zlY (o::l) (n+1)=zlY l n:=rfl
def zxE (t:Option Tmp) (e:Env) (b:Bool):Bool:=match t with|some t=>zgp (e.get t) b|none=>false
theorem zn7 (t:Tmp) (e:Env) (b:Bool):zxE (some t) e b=zgp (e.get t) b:=rfl
theorem zzK (ops:List Oper) (d:Option Tmp) (op:Op) (ty:TypeId) (pos:String) (af:Array Edge) (e:Env) (j:Nat) (b:Bool):zbf ⟨ops⟩ ⟨d,op,ty,pos,af,some (j,b)⟩ e=zxE (zlY ops j) e b:=by
 rw [← zpe]
 simp only [zbf,List.getElem?_toArray]
 cases (ops[j]?).bind (·.dst) <;> rfl
theorem zvh:zgp (.bool true) true=true:=rfl
theorem zve:zgp (.bool false) false=true:=rfl
theorem zvg:zgp (.bool true) false=false:=rfl
theorem zvf:zgp (.bool false) true=false:=rfl

def zdq (b:Option Blk) (o:Nat):Option Value:=match b with
 |some (.row cs _ _)=>cs[o]?
 |_=>none
theorem zrP (cs:List Value) (e:TypeId) (r:Bool) (o:Nat):zdq (some (.row cs e r)) o=cs[o]? := rfl
def cutO (b:Option Blk) (o n:Nat):Option Value:=match b with
 |some (.row cs _ _)=>(cut cs o n).map fun l=>.agg l.toArray
 |_=>none
theorem zuX (cs:List Value) (e:TypeId) (r:Bool) (o n:Nat):cutO (some (.row cs e r)) o n=(cut cs o n).map fun l=>.agg l.toArray:=rfl
theorem zbm {t:TypeId} {A o:Nat} {h:Heap} (hg:aggA T t=some false):zaL T t (.pointer (some ⟨A,o,none⟩)) h=zdq (h.get A) o:=by
 simp only [zaL,hg,Option.bind_some,zaI]
 cases h.get A with
 |none=>rfl
 |some b =>
  cases b with
  |dead=>rfl
  |map es c=>rfl
  |loop _ _ _ _ _ _=>rfl
  |row cs e r =>
   simp only [cut,zdq,Bool.false_eq_true,if_false]
   split
   ·rename_i hl
    simp [List.getElem?_drop]
   ·rename_i hl
    rw [List.getElem?_eq_none (by omega)];rfl
theorem zdi {t:TypeId} {A o n:Nat} {h:Heap} (hg:aggA T t=some true) (hs:zau T t=some n):zaL T t (.pointer (some ⟨A,o,none⟩)) h=cutO (h.get A) o n:=by
 simp only [zaL,hg,hs,Option.bind_some,zaI,if_true]
 cases h.get A with
 |none=>rfl
 |some b=>cases b <;> rfl
theorem zvl {t:TypeId} {s:ByteArray} {h:Heap} (hd:T.desc t=some .string):lenA T t (.string s) h=some (.int .i64 s.size):=by simp [lenA,hd]
theorem zbq {t e:TypeId} {a:Option Addr} {n c:Nat} {h:Heap} (hd:T.desc t=some (.slice e)):lenA T t (.slice a n c) h=some (.int .i64 n):=by simp [lenA,hd]
theorem zyL {t e:TypeId} {m k:Nat} {A o:Nat} {ik:IntKind} {i:Int} (hd:T.desc t=some (.array m e)) (hs:zau T e=some k) :
 zao T t (.pointer (some ⟨A,o,none⟩)) (.int ik i)=if 0≤i∧i < m then some (.pointer (some ⟨A,o+i.toNat*k,none⟩)) else none:=by simp [zao,hd,hs]
theorem zbK {t e:TypeId} {k:Nat} {A o n c:Nat} {ik:IntKind} {i:Int} (hd:T.desc t=some (.slice e)) (hs:zau T e=some k) :
 zao T t (.slice (some ⟨A,o,none⟩) n c) (.int ik i)=if 0≤i∧i < n then some (.pointer (some ⟨A,o+i.toNat*k,none⟩)) else none:=by simp [zao,hd,hs]
theorem bsl {t e:TypeId} {k b:Nat} {z:List Value} (hd:T.desc t=some (.slice e)) (hi:T.info e=some (k,b,z)) (len:Nat) (parts:List (Nat × Value)) (h:Heap) :
 zaB T t len parts h=if len*k > 16777216 || len > 16777216 then none else (zcP (fun i=>some (i*k,k)) (zbo z len) parts).map fun cs=>(.slice (some ⟨h.size,0,none⟩) len len,h.push (.row cs e false)):=by
 simp [zaB,hd,hi]
theorem zsn (place:Nat→Option (Nat × Nat)) (cells:List Value):zcP place cells []=some cells:=rfl
theorem zso (cells:List Value) (i k:Nat) (v:Value) (rest:List (Nat × Value)) (h1:v.cells.size=k) (h2:i*k+k≤cells.length) :
 zcP (fun i=>some (i*k,k)) cells ((i,v)::rest)=zcP (fun i=>some (i*k,k)) (splice cells (i*k) v.cells.toList) rest:=by
 simp [zcP,h1,h2]
theorem wrap_i64 {i:Int} (h1 : -9223372036854775808≤i) (h2:i < 9223372036854775808):IntKind.i64.wrap i=i:=by
 show (if (true && decide (i % (2 ^ 64:Int) ≥ (2 ^ 63:Int)))=true then i % (2 ^ 64:Int) - (2 ^ 64:Int) else i % (2 ^ 64:Int))=i
 by_cases hc:i % (2 ^ 64:Int) ≥ (2 ^ 63:Int)
 ·rw [if_pos (by simpa using hc)];omega
 ·rw [if_neg (by simpa using hc)];omega
theorem zac {t:TypeId} {cs:List Value} {o:Nat} (hg:aggA T t=some false):zaf T t cs o=cs[o]? := by simp [zaf,hg]
theorem zap {t:TypeId} {cs:List Value} {o n:Nat} (hg:aggA T t=some true) (hs:zau T t=some n):zaf T t cs o=(cut cs o n).map fun l=>.agg l.toArray:=by simp [zaf,hg,hs]

/-! ### A comparison parts the ways at once -/
def zfG (b:Bool) (h:Heap) (K:Value→Heap→Prop):Prop:=(b=true→K (.bool true) h)∧(b=false→K (.bool false) h)
theorem zuB (b:Bool) (h:Heap) (K:Value→Heap→Prop):valE (some (.bool b)) h K=zfG b h K:=by
 cases b <;> simp [valE,zfG]
theorem zjZ (h:Heap) (K:Value→Heap→Prop):zfG true h K=K (.bool true) h:=by simp [zfG]
theorem zer (h:Heap) (K:Value→Heap→Prop):zfG false h K=K (.bool false) h:=by simp [zfG]
theorem zxa (k:IntKind) (i:Int) (h:Heap) (K:Value→Heap→Prop):valE (some (.int k i)) h K=K (.int k i) h:=rfl
theorem zxc (s:ByteArray) (h:Heap) (K:Value→Heap→Prop):valE (some (.string s)) h K=K (.string s) h:=rfl
theorem zxb (a:Option Addr) (h:Heap) (K:Value→Heap→Prop):valE (some (.pointer a)) h K=K (.pointer a) h:=rfl
theorem zrr (a:Option Addr) (n c:Nat) (h:Heap) (K:Value→Heap→Prop):valE (some (.slice a n c)) h K=K (.slice a n c) h:=rfl
theorem zw9 (cs:Array Value) (h:Heap) (K:Value→Heap→Prop):valE (some (.agg cs)) h K=K (.agg cs) h:=rfl
theorem zuC (f:FuncId) (a b:Array Value) (h:Heap) (K:Value→Heap→Prop):valE (some (.func (.func f) a b)) h K=K (.func (.func f) a b) h:=rfl

/-! ### One round more -/
theorem WOp.one {o:Oper} {e:Env} {h:Heap} {K:Value→Heap→Prop} (hw:WOp P T ov o e h K):∃ v h',K v h'∧∀ K':Value→Heap→Prop,K' v h'→WOp P T ov o e h K':=by
 unfold WOp at hw
 split at hw
 ·rename_i f args ats hop
  split at hw
  ·rename_i g fi ca hf
   obtain ⟨n,v,h',h1,h2⟩:=hw
   refine ⟨v,h',h2,fun K' hk=>?_⟩
   unfold WOp
   simp only [hop,hf]
   exact ⟨n,v,h',h1,hk⟩
  ·rename_i A fi ca hf
   obtain ⟨hc,n,v,h',h1,h2⟩:=hw
   refine ⟨v,h',h2,fun K' hk=>?_⟩
   unfold WOp
   simp only [hop,hf]
   exact ⟨hc,n,v,h',h1,hk⟩
  ·exact hw.elim
 ·rename_i r name args ats hop
  split at hw
  ·rename_i t x hr
   split at hw
   ·rename_i f y hm
    obtain ⟨n,v,h',h1,h2⟩:=hw
    refine ⟨v,h',h2,fun K' hk=>?_⟩
    unfold WOp
    simp only [hop,hr,hm]
    exact ⟨n,v,h',h1,hk⟩
   ·exact hw.elim
  ·exact hw.elim
 ·rename_i hno hno2
  unfold optE at hw
  split at hw
  ·rename_i v h' h1
   refine ⟨v,h',hw,fun K' hk=>?_⟩
   unfold WOp
   split
   ·rename_i f args ats hop;exact (hno f args ats hop).elim
   ·rename_i r name args ats hop;exact (hno2 r name args ats hop).elim
   ·rw [h1];exact hk
  ·exact hw.elim
theorem WOps.one {ops:Array Oper}:∀ (l:List Oper) (e:Env) (h:Heap) (Q:Env→Heap→Prop),WOps P T ov ops l e h Q→∃ e' h',Q e' h'∧∀ Q':Env→Heap→Prop,Q' e' h'→WOps P T ov ops l e h Q'
 | [],e,h,Q,hw=>⟨e,h,hw,fun _ hq=>hq⟩
 |o::l,e,h,Q,hw=>by
  simp only [WOps,zfo] at hw ⊢
  split at hw
  ·rename_i hwt
   obtain ⟨v,h1,h2,h3⟩:=WOp.one hw
   obtain ⟨e',h',h4,h5⟩:=WOps.one l _ _ _ h2
   exact ⟨e',h',h4,fun Q' hq=>by rw [if_pos hwt];exact h3 _ (h5 Q' hq)⟩
  ·rename_i hwt
   obtain ⟨e',h',h4,h5⟩:=WOps.one l _ _ _ hw
   exact ⟨e',h',h4,fun Q' hq=>by rw [if_neg hwt];exact h5 Q' hq⟩
theorem WOpsK.one {ops:Array Oper}:∀ (l:List Oper) (ks:List Nat) (e:Env) (h:Heap) (Q:List Nat→Env→Heap→Prop),WOpsK P T ov ops l ks e h Q→∃ ks' e' h',Q ks' e' h'∧∀ Q':List Nat→Env→Heap→Prop,Q' ks' e' h'→WOpsK P T ov ops l ks e h Q'
 | [],ks,e,h,Q,hw=>⟨ks,e,h,hw,fun _ hq=>hq⟩
 |o::l,ks,e,h,Q,hw=>by
  simp only [WOpsK,zfo] at hw ⊢
  split at hw
  ·rename_i hwt
   obtain ⟨v,h1,h2,h3⟩:=WOp.one hw
   obtain ⟨ks',e',h',h4,h5⟩:=WOpsK.one l _ _ _ _ h2
   exact ⟨ks',e',h',h4,fun Q' hq=>by rw [if_pos hwt];exact h3 _ (h5 Q' hq)⟩
  ·rename_i hwt
   obtain ⟨ks',e',h',h4,h5⟩:=WOpsK.one l _ _ _ _ hw
   exact ⟨ks',e',h',h4,fun Q' hq=>by rw [if_neg hwt];exact h5 Q' hq⟩
def zmR (P:Program) (T:Tab) (ov:Ov) (rd:Option Nat) (c:Code) (Q:Ex→Env→Heap→Prop):Ex→Env→Heap→Prop
 | .normal,e',h'=>W P T ov rd (.loop c) e' h' Q
 | .exit i,e',h'=>Q (.exit i) e' h'
 | .ret,e',h'=>Q .ret e' h'
section
variable {rd:Option Nat}
theorem W.one:∀ (c:Code) (e:Env) (h:Heap) (Q:Ex→Env→Heap→Prop),W P T ov rd c e h Q→∃ x e' h',Q x e' h'∧∀ Q':Ex→Env→Heap→Prop,Q' x e' h'→W P T ov rd c e h Q':=by
 intro c
 induction c with
 |skip=>intro e h Q hw;exact ⟨_,_,_,hw,fun _ hq=>hq⟩
 |region id ops d =>
  intro e h Q hw
  cases d with
  |false =>
   obtain ⟨e',h',h1,h2⟩:=WOps.one _ _ _ _ hw
   exact ⟨_,e',h',h1,fun Q' hq=>h2 _ hq⟩
  |true =>
   obtain ⟨ks,e',h',h1,h2⟩:=WOpsK.one _ _ _ _ _ hw
   exact ⟨_,e',h',h1.2,fun Q' hq=>h2 _ ⟨h1.1,hq⟩⟩
 |seq a b iha ihb =>
  intro e h Q hw
  simp only [W] at hw ⊢
  obtain ⟨x,e1,h1,h2,h3⟩:=iha _ _ _ hw
  cases x with
  |normal =>
   obtain ⟨x,e2,h4,h5,h6⟩:=ihb _ _ _ h2
   exact ⟨x,e2,h4,h5,fun Q' hq=>h3 _ (h6 Q' hq)⟩
  |exit id=>exact ⟨_,e1,h1,h2,fun Q' hq=>h3 _ hq⟩
  |ret=>exact ⟨_,e1,h1,h2,fun Q' hq=>h3 _ hq⟩
 |cond c a b iha ihb =>
  intro e h Q hw
  simp only [W,zkM] at hw ⊢
  split at hw
  ·rename_i t ht
   cases t with
   |true =>
    obtain ⟨x,e1,h1,h2,h3⟩:=iha _ _ _ (hw.1 rfl)
    exact ⟨x,e1,h1,h2,fun Q' hq=>⟨fun _=>h3 Q' hq,fun hh=>nomatch hh⟩⟩
   |false =>
    obtain ⟨x,e1,h1,h2,h3⟩:=ihb _ _ _ (hw.2 rfl)
    exact ⟨x,e1,h1,h2,fun Q' hq=>⟨fun hh=>(nomatch hh),fun _=>h3 Q' hq⟩⟩
  ·exact hw.elim
 |block id c ih =>
  intro e h Q hw
  simp only [W] at hw ⊢
  obtain ⟨x,e1,h1,h2,h3⟩:=ih _ _ _ hw
  cases x with
  |normal=>exact ⟨.normal,e1,h1,h2,fun Q' hq=>h3 _ hq⟩
  |exit i =>
   by_cases hi:i=id
   ·simp only [if_pos hi] at h2
    exact ⟨.normal,e1,h1,h2,fun Q' hq=>h3 _ (by simp only [if_pos hi];exact hq)⟩
   ·simp only [if_neg hi] at h2
    exact ⟨.exit i,e1,h1,h2,fun Q' hq=>h3 _ (by simp only [if_neg hi];exact hq)⟩
  |ret=>exact ⟨.ret,e1,h1,h2,fun Q' hq=>h3 _ hq⟩
 |loop c ih =>
  intro e h Q hw
  simp only [W] at hw ⊢
  obtain ⟨n,hw⟩:=hw
  induction n generalizing e h with
  |zero=>exact hw.elim
  |succ n ihn =>
   simp only [WIter] at hw
   obtain ⟨x,e1,h1,h2,h3⟩:=ih _ _ _ hw
   cases x with
   |normal =>
    obtain ⟨x,e2,h4,h5,h6⟩:=ihn _ _ h2
    refine ⟨x,e2,h4,h5,fun Q' hq=>?_⟩
    obtain ⟨m,hm⟩:=h6 Q' hq
    exact ⟨m+1,by simp only [WIter];exact h3 _ hm⟩
   |exit id=>exact ⟨.exit id,e1,h1,h2,fun Q' hq=>⟨1,by simp only [WIter];exact h3 _ hq⟩⟩
   |ret=>exact ⟨.ret,e1,h1,h2,fun Q' hq=>⟨1,by simp only [WIter];exact h3 _ hq⟩⟩
 |exit id=>intro e h Q hw;exact ⟨_,_,_,hw,fun _ hq=>hq⟩
 |ret=>intro e h Q hw;exact ⟨_,_,_,hw,fun _ hq=>hq⟩
 |label l=>intro e h Q hw;exact ⟨_,_,_,hw,fun _ hq=>hq⟩
 |rangeFunc g ps a b _ _ =>
  intro e h Q hw
  simp only [W,ziO] at hw
  split at hw
  ·rename_i f fi ca hg
   obtain ⟨hc,n,v,h1,h2,h3⟩:=hw
   unfold zp0 at h3
   split at h3
   ·rename_i x e' h' h4
    refine ⟨x,e',h',h3,fun Q' hq=>?_⟩
    simp only [W,ziO,hg]
    exact ⟨hc,n,v,h1,h2,by show zp0 (zcV h.size e h1) Q';rw [h4];exact hq⟩
   ·exact h3.elim
  ·exact hw.elim
 |scope c ih=>intro e h Q hw;exact ih _ _ _ hw
 |goto l=>intro e h Q hw;exact hw.elim
 |refuse s=>intro e h Q hw;exact hw.elim
theorem zkv {c:Code} {e:Env} {h:Heap} {Q:Ex→Env→Heap→Prop} (hw:W P T ov rd c e h (zmR P T ov rd c Q)):W P T ov rd (.loop c) e h Q:=by
 obtain ⟨x,e1,h1,h2,h3⟩:=W.one _ _ _ _ hw
 simp only [W]
 cases x with
 |normal =>
  simp only [zmR,W] at h2
  obtain ⟨n,hn⟩:=h2
  exact ⟨n+1,by simp only [WIter];exact h3 _ hn⟩
 |exit id=>exact ⟨1,by simp only [WIter];exact h3 _ h2⟩
 |ret=>exact ⟨1,by simp only [WIter];exact h3 _ h2⟩
theorem zll (c:Code) (Q:Ex→Env→Heap→Prop) (e:Env) (h:Heap):zmR P T ov rd c Q .normal e h=W P T ov rd (.loop c) e h Q:=rfl
theorem zoy (c:Code) (Q:Ex→Env→Heap→Prop) (i:Nat) (e:Env) (h:Heap):zmR P T ov rd c Q (.exit i) e h=Q (.exit i) e h:=rfl
theorem zqY (c:Code) (Q:Ex→Env→Heap→Prop) (e:Env) (h:Heap):zmR P T ov rd c Q .ret e h=Q .ret e h:=rfl
end
theorem zam {fn:Func} {t:Tmp} {K:Value→Heap→Prop} {e:Env} {h:Heap} (hr:fn.results=#[.tmp t]):finE T fn K .ret e h=K (e.get t) h:=by
 simp [finE,zaY,hr,zcE]
theorem zhT {fn:Func} {t:Tmp} {y:TypeId} {K:Value→Heap→Prop} {e:Env} {h:Heap} (hr:fn.results=#[.cell t y]):finE T fn K .ret e h=valE (zaL T y (e.get t) h) h K:=by
 simp only [finE,zaY,hr,zcE,valE]
 cases zaL T y (e.get t) h <;> simp
theorem zdx {fn:Func} {t u:Tmp} {K:Value→Heap→Prop} {e:Env} {h:Heap} (hr:fn.results=#[.tmp t,.tmp u]):finE T fn K .ret e h=K (.tuple #[e.get t,e.get u]) h:=by
 simp [finE,zaY,hr,zcE]
end
noncomputable def ysyms:=PLift.up (And.intro @zuM <| And.intro @zlA <| And.intro @zq7 <| And.intro @zoL <| And.intro @zuJ <| And.intro @zzQ <| And.intro @zuN <| And.intro @zsK <| And.intro @zzP <| And.intro @zrC <| And.intro @zzN <| And.intro @zzO <| And.intro @zBb <| And.intro @zxX <| And.intro @znh <| And.intro @zrj <| And.intro @zut <| And.intro @zkE <| And.intro @znA <| And.intro @zpS <| And.intro @zqn <| And.intro @zsC <| And.intro @zll <| And.intro @zoy <| And.intro @zqY <| And.intro @zA8 <| And.intro @zxe <| And.intro @zA9 <| And.intro @zqQ <| And.intro @zos <| And.intro @zGK <| And.intro @zzF <| And.intro @zqP <| And.intro @zor <| And.intro @znj <| And.intro @zA7 <| And.intro @zzJ <| And.intro @zsF <| And.intro @zru <| And.intro @zvr <| And.intro @zsJ <| And.intro @zzE <| And.intro @zrs <| And.intro @zo0 <| And.intro @zzI <| And.intro @ztc <| And.intro @ztb <| And.intro @zoY <| And.intro @zzG <| And.intro @zoZ <| And.intro @zuE <| And.intro @zrl <| And.intro @zBa <| And.intro @znk <| And.intro @zzH <| And.intro @zGL <| And.intro @zA6 <| And.intro @zGN <| And.intro @zGM <| And.intro @zuK <| And.intro @zrH <| And.intro @zpN <| And.intro @za1 <| And.intro @zta <| And.intro @zuB <| And.intro @zjZ <| And.intro @zer <| And.intro @zxa <| And.intro @zxc <| And.intro @zxb <| And.intro @zrr <| And.intro @zw9 <| And.intro @zuC <| And.intro @zp2 <| And.intro @znG <| And.intro @zuF <| And.intro @zzK <| And.intro @zp9 <| And.intro @zp8 <| And.intro @zn7 <| And.intro @zvh <| And.intro @zvg <| And.intro @zvf <| And.intro @zve <| And.intro @zx2 <| And.intro @zyb <| And.intro @zx3 <| And.intro @zx8 <| And.intro @zx7 <| And.intro @zx6 <| And.intro @zx5 <| And.intro @zx4 <| And.intro @zvk <| And.intro @zad <| And.intro @zod <| And.intro @zbd <| And.intro @zrP <| And.intro @zuX <| @wrap_i64)
theorem syms:type_of% ysyms.down:=ysyms.down
theorem za3 (v:Value):∀ (h:Heap) (K:Value→Heap→Prop),valE (some v) h K=K v h:=fun _ _=>rfl
theorem vStr (s:ByteArray) (h:Heap) (K:Value→Heap→Prop):valE (some (.string s)) h K=K (.string s) h:=rfl
theorem vInt (n:Int) (h:Heap) (K:Value→Heap→Prop):valE (some (.int .i64 n)) h K=K (.int .i64 n) h:=rfl
theorem zcl (i:Nat) (h:i < 9223372036854775807):IntKind.i64.wrap ((i:Int)+1)=((i+1:Nat):Int):=by rw [wrap_i64 (by omega) (by omega)];omega
end Go.Am
