/- Steps of the plain machine, for simp. No condition. -/
import Derived.Test.YtkgojconmeeegaaGreatDoorG2
set_option linter.unusedSimpArgs false
namespace Go.Am
variable {A k n o:Nat} {t:TypeId} {fn:Func}

def Heap.lay (h:Heap) (l:List bh) (w:Nat):Heap:={ l.foldl Heap.push h with low:=w }

theorem Uj (l:List bh):∀ h:Heap,(l.foldl Heap.push h).size=h.size+l.length:=by
 induction l with
 |nil=>intro h;rfl
 |cons b l ih=>intro h;rw [wu,ih,Heap.size_push,de];omega
theorem zlA (h:Heap) (w A:Nat):Heap.get { h with low:=w } A=h.get A:=rfl
theorem zo5 (l:List bh):∀ (h:Heap) (A:Nat),(l.foldl Heap.push h).get A=if h.size<=A then l[A - h.size]? else h.get A:=by
 induction l with
 |nil =>
  intro h A
  simp only [List.foldl_nil]
  split
  .rename_i hA
   simp only [Heap.get,List.getElem?_nil]
   rw [az (by omega)]
  .rfl
 |cons b l ih =>
  intro h A
  rw [wu,ih,Heap.size_push,Heap.bx]
  by_cases h1:h.size+1<=A
  .rw [aE h1,aE (by omega),show A - h.size=(A - (h.size+1))+1 by omega,List.getElem?_cons_succ]
  .rw [az h1]
   by_cases h2:A=h.size
   .rw [aE h2,aE (by omega),h2,Df,AH]
   .rw [az h2,az (by omega)]

section
variable (h:Heap) (l:List bh) (w:Nat)
theorem bf:(h.lay l w).size=h.size+l.length:=Uj l h
theorem zrK:(h.lay l w).low=w:=rfl
theorem zzR (b:bh):(h.lay l w).push b=h.lay (l++[b]) w:=by
 simp only [Heap.lay,List.foldl_append,wu,List.foldl_nil]
 rfl
theorem gH (i:Nat):(h.lay l w).get (h.size+i)=l[i]? := by
 unfold Heap.lay
 rw [zlA,zo5,aE (by omega),show h.size+i - h.size=i by omega]
theorem Er (hA:A < h.size):(h.lay l w).get A=h.get A:=by
 unfold Heap.lay
 rw [zlA,zo5,az (by omega)]
theorem ao:h=h.lay [] h.low:=rfl
theorem zrJ (hw:min h.low h.size<=w):Ext h (h.lay l w):=⟨by rw [bf];omega,λA hA=>Er h l w hA,hw⟩
end

section
variable {P:Program} {T:bL} {ov:Ov}
section
variable (d:Option Tmp) (ty:TypeId) (pos:String) (af:Array Edge) (g:Option (Nat × Bool)) (e:Env) (h:Heap) (K:aG)
def aD (r:Option ae) (h:Heap) (K:aG):Prop:=match r with
 |some v=>K v h
 |none=>False
theorem zEx (x:Operand):cy P T ov ⟨d,.move x,ty,pos,af,g⟩ e h K=K (bz e x) h:=rfl
theorem zBf (x:Operand):cy P T ov ⟨d,.assign x,ty,pos,af,g⟩ e h K=K (bz e x) h:=rfl
def zC6 (c a b:ae):Option ae:=match c with | .bool t=>some (if t then a else b)|_=>none
theorem zvt (a b:ae):zC6 (.bool true) a b=some a:=rfl
theorem zr7 (a b:ae):zC6 (.bool false) a b=some b:=rfl
theorem wV (r:Option ae):dx (r.map λv=>(v,h)) K=aD r h K:=by cases r <;> rfl
theorem zEy (c a b:Operand):cy P T ov ⟨d,.pick c a b,ty,pos,af,g⟩ e h K=aD (zC6 (bz e c) (bz e a) (bz e b)) h K:=by
 show dx (zHb (bz e c) (bz e a) (bz e b) h) K=_
 cases bz e c <;> rfl
theorem zDq (t:TypeId) {b:Nat} {z:List ae} (hz:T.info t=some (n,b,z)):cy P T ov ⟨d,.alloc t,ty,pos,af,g⟩ e h K=K (.pointer (some ⟨h.size,0,none⟩)) (h.push (.row z t false)):=by
 show dx ((T.info t).map λ(_,_,z)=>newRow t z h) K=_
 rw [hz];rfl
theorem zHo (t:TypeId) (x:Operand):cy P T ov ⟨d,.box t x,ty,pos,af,g⟩ e h K=K (.pointer (some ⟨h.size,0,none⟩)) (h.push (.row (bz e x).cells.toList t false)):=rfl
def HS (e:Env):List (Nat × Operand)->List (Nat × ae)
 | []=>[]
 |(i,x)::l=>(i,bz e x)::HS e l
theorem zpR (l:List (Nat × Operand)):l.map (λ(i,x)=>(i,bz e x))=HS e l:=by
 induction l with
 |nil=>rfl
 |cons a l ih=>rw [mZ,ih];rfl
theorem zvs:HS e []=[]:=rfl
theorem zr6 (i:Nat) (x:Operand) (l:List (Nat × Operand)):HS e ((i,x)::l)=(i,bz e x)::HS e l:=rfl
theorem zDs (t:TypeId) (ps:List (Nat × Operand)):cy P T ov ⟨d,.build t ⟨ps⟩,ty,pos,af,g⟩ e h K=aD (od T t (HS e ps)) h K:=by
 rw [<- wV,<- zpR];rfl
theorem zqv (t:TypeId) (n:Nat) (ps:List (Nat × Operand)):cy P T ov ⟨d,.buildSlice t n ⟨ps⟩,ty,pos,af,g⟩ e h K=dx (zl T t n (HS e ps) h) K:=by
 rw [<- zpR];rfl
theorem zEw (t:TypeId) (x:Operand):cy P T ov ⟨d,.load t x,ty,pos,af,g⟩ e h K=aD (fW T t (bz e x) h) h K:=by rw [<- wV];rfl
def iH (r:Option Heap) (K:aG):Prop:=match r with
 |some h=>K undef h
 |none=>False
theorem zxG:iH (some h) K=K undef h:=rfl
theorem zDw (t:TypeId) (x y:Operand):cy P T ov ⟨d,.store t x y,ty,pos,af,g⟩ e h K=iH (iS T t (bz e x) (bz e y) h) K:=by
 show dx ((iS T t (bz e x) (bz e y) h).map λh'=>(undef,h')) K=_
 cases iS T t (bz e x) (bz e y) h <;> rfl
def G9 (v:ae):Option ae:=match v with
 | .pointer (some a)=>some (.pointer (some a))
 | .func (.func f) a b=>some (.func (.func f) a b)
 | .iface t a=>some (.iface t a)
 |_=>none
theorem zz1 (a:Addr):G9 (.pointer (some a))=some (.pointer (some a)):=rfl
theorem zxL (f:FuncId) (a b:Array ae):G9 (.func (.func f) a b)=some (.func (.func f) a b):=rfl
theorem zwc (x:Operand):cy P T ov ⟨d,.nilCheck x,ty,pos,af,g⟩ e h K=aD (G9 (bz e x)) h K:=by
 show dx (Z8 (bz e x) h) K=_
 generalize bz e x=v
 cases v <;> try rfl
 .rename_i p;cases p <;> rfl
 .rename_i f a b;cases f <;> rfl
theorem zDr (op:BinOp) (t:TypeId) (x y:Operand) (yt:TypeId):cy P T ov ⟨d,.binOp op t x y yt,ty,pos,af,g⟩ e h K=aD (bY P T op t (bz e x) (bz e y)) h K:=by rw [<- wV];rfl
theorem zwa (f:FuncId) (fi ca:List Operand):cy P T ov ⟨d,.makeFunc (.func f) ⟨fi⟩ ⟨ca⟩,ty,pos,af,g⟩ e h K=K (.func (.func f) ⟨AK e fi⟩ ⟨AK e ca⟩) h:=by
 rw [<- Rz,<- Rz]
 show K (.func (.func f) (Array.map (bz e) ⟨fi⟩) (Array.map (bz e) ⟨ca⟩)) h=_
 congr 2 <;> simp
theorem zsH (t:TypeId) (l c:Operand):cy P T ov ⟨d,.makeSlice t l c,ty,pos,af,g⟩ e h K=dx (Rb T t (bz e l) (bz e c) h) K:=rfl
def za (e:Env):Option Operand->Option ae
 |some x=>some (bz e x)
 |none=>none
theorem zys (x:Operand):za e (some x)=some (bz e x):=rfl
theorem zyr:za e none=none:=rfl
theorem zDv (t:TypeId) (x:Operand) (l hi m:Option Operand):cy P T ov ⟨d,.slice t x l hi m,ty,pos,af,g⟩ e h K=aD (jY T t (bz e x) (za e l) (za e hi) (za e m)) h K:=by
 rw [<- wV];cases l <;> cases hi <;> cases m <;> rfl
theorem zsF (s:TypeId) (x:Operand) (f:Nat):cy P T ov ⟨d,.fieldAddr s x f,ty,pos,af,g⟩ e h K=aD (fU T s (bz e x) f) h K:=by rw [<- wV];rfl
theorem zDt (s:TypeId) (x:Operand) (f:Nat):cy P T ov ⟨d,.field s x f,ty,pos,af,g⟩ e h K=aD (Sb T s (bz e x) f) h K:=by rw [<- wV];rfl
theorem zsG (t:TypeId) (x i:Operand):cy P T ov ⟨d,.indexAddr t x i,ty,pos,af,g⟩ e h K=aD (jF T t (bz e x) (bz e i)) h K:=by rw [<- wV];rfl
def Hi (v:ae) (i:Nat):Option ae:=match v with | .tuple vs=>vs[i]?|_=>none
theorem zv4 (vs:List ae) (i:Nat):Hi (.tuple ⟨vs⟩) i=vs[i]? := by simp [Hi]
theorem zze (t:Operand) (i:Nat):cy P T ov ⟨d,.extract t i,ty,pos,af,g⟩ e h K=aD (Hi (bz e t) i) h K:=by
 rw [<- wV]
 show dx (aaI (bz e t) i h) K=_
 cases bz e t <;> rfl
theorem zEz (op:UnOp) (t:TypeId) (x:Operand):cy P T ov ⟨d,.unOp op t x,ty,pos,af,g⟩ e h K=dx (ic P e ⟨d,.unOp op t x,ty,pos,af,g⟩ h) K:=rfl
theorem zqw (s t:TypeId) (x:Operand) (h1:uP T s=false) (h2:uP T t=false):cy P T ov ⟨d,.convert s t x,ty,pos,af,g⟩ e h K=dx (ic P e ⟨d,.convert s t x,ty,pos,af,g⟩ h) K:=by
 show dx (if uP T s then (UF T s t (bz e x) h).map λr=>(r,h) else if uP T t then (if UJ T s then Jx T t (bz e x) h else none) else ic P e ⟨d,.convert s t x,ty,pos,af,g⟩ h) K=_
 rw [h1,h2]
 rfl
theorem zDu (t:TypeId) (x i:Operand):cy P T ov ⟨d,.index t x i,ty,pos,af,g⟩ e h K=dx (ic P e ⟨d,.index t x i,ty,pos,af,g⟩ h) K:=rfl
theorem zHp (t:TypeId) (x:Operand):cy P T ov ⟨d,.call ⟨.builtin .len,#[x],#[t]⟩,ty,pos,af,g⟩ e h K=aD (bt T t (bz e x) h) h K:=by rw [<- wV];rfl
theorem ja (t u:TypeId) (s x:Operand) (hs:rW T t u=true):cy P T ov ⟨d,.call ⟨.builtin .append,#[s,x],#[t,u]⟩,ty,pos,af,g⟩ e h K=dx (iP T t (bz e s) (bz e x) h) K:=by
 show dx (if rW T t u then iP T t (bz e s) (bz e x) h else none) K=_
 rw [aE hs]
theorem zEv (t u:TypeId) (s x:Operand):cy P T ov ⟨d,.call ⟨.builtin .copy,#[s,x],#[t,u]⟩,ty,pos,af,g⟩ e h K=dx (SD T t (bz e s) (bz e x) h) K:=rfl
theorem zHr (x y:Operand) (iy:Array TypeId):cy P T ov ⟨d,.call ⟨.builtin .min,#[x,y],iy⟩,ty,pos,af,g⟩ e h K=dx (ic P e ⟨d,.call ⟨.builtin .min,#[x,y],iy⟩,ty,pos,af,g⟩ h) K:=rfl
theorem zHq (x y:Operand) (iy:Array TypeId):cy P T ov ⟨d,.call ⟨.builtin .max,#[x,y],iy⟩,ty,pos,af,g⟩ e h K=dx (ic P e ⟨d,.call ⟨.builtin .max,#[x,y],iy⟩,ty,pos,af,g⟩ h) K:=rfl
end

def ES:List Oper->Nat->Option Tmp
 | [],_=>none
 |o::_,0=>o.dst
 |_::l,n+1=>ES l n
theorem zs3:∀ (l:List Oper) (j:Nat),(l[j]?).bind (·.dst)=ES l j
 | [],j=>by simp [ES]
 |o::l,0=>by simp [ES]
 |o::l,j+1=>by rw [List.getElem?_cons_succ,zs3 l j];rfl
theorem zuv (o:Oper) (l:List Oper):ES (o::l) 0=o.dst:=rfl
theorem zuu (o:Oper) (l:List Oper) (n:Nat):ES (o::l) (n+1)=ES l n:=rfl
def zBu (t:Option Tmp) (e:Env) (b:Bool):Bool:=match t with|some t=>CT (e.get t) b|none=>false
theorem zrz (t:Tmp) (e:Env) (b:Bool):zBu (some t) e b=CT (e.get t) b:=rfl
theorem zDx (ops:List Oper) (d:Option Tmp) (op:Op) (ty:TypeId) (pos:String) (af:Array Edge) (e:Env) (j:Nat) (b:Bool):nP ⟨ops⟩ ⟨d,op,ty,pos,af,some (j,b)⟩ e=zBu (ES ops j) e b:=by
 rw [<- zs3]
 simp only [nP,List.getElem?_toArray]
 cases (ops[j]?).bind (·.dst) <;> rfl
theorem zzL:CT (.bool true) true=true:=rfl
theorem zzI:CT (.bool false) false=true:=rfl
theorem zzK:CT (.bool true) false=false:=rfl
theorem zzJ:CT (.bool false) true=false:=rfl

def Kf (b:Option bh) (o:Nat):Option ae:=match b with
 |some (.row cs _ _)=>cs[o]?
 |_=>none
theorem zwK (cs:List ae) (e:TypeId) (r:Bool) (o:Nat):Kf (some (.row cs e r)) o=cs[o]? := rfl
def Bv (b:Option bh) (o n:Nat):Option ae:=match b with
 |some (.row cs _ _)=>(cut cs o n).map λl=>.agg l.toArray
 |_=>none
theorem zzz (cs:List ae) (e:TypeId) (r:Bool) (o n:Nat):Bv (some (.row cs e r)) o n=(cut cs o n).map λl=>.agg l.toArray:=rfl
theorem mK {h:Heap} (hg:ct T t=some false):fW T t (.pointer (some ⟨A,o,none⟩)) h=Kf (h.get A) o:=by
 simp only [fW,hg,dX,gS]
 cases h.get A with
 |none=>rfl
 |some b =>
  cases b with
  |dead=>rfl
  |map es c=>rfl
  |loop _ _ _ _ _ _=>rfl
  |row cs e r =>
   simp only [cut,Kf,gW,if_false]
   split
   .rename_i hl
    simp [lA]
   .rename_i hl
    rw [H5 (by omega)];rfl
theorem zn {h:Heap} (hg:ct T t=some true) (hs:cN T t=some n):fW T t (.pointer (some ⟨A,o,none⟩)) h=Bv (h.get A) o n:=by
 simp only [fW,hg,hs,dX,gS,if_true]
 cases h.get A with
 |none=>rfl
 |some b=>cases b <;> rfl
theorem zzT {s:aB} {h:Heap} (hd:T.desc t=some .string):bt T t (.string s) h=some (.int .i64 s.size):=by simp [bt,hd]
theorem sI {e:TypeId} {a:Option Addr} {c:Nat} {h:Heap} (hd:T.desc t=some (.slice e)):bt T t (.slice a n c) h=some (.int .i64 n):=by simp [bt,hd]
theorem zCz {e:TypeId} {m:Nat} {ik:IntKind} {i:Int} (hd:T.desc t=some (.array m e)) (hs:cN T e=some k) :
 jF T t (.pointer (some ⟨A,o,none⟩)) (.int ik i)=if 0<=i/\i < m then some (.pointer (some ⟨A,o+i.toNat*k,none⟩)) else none:=by simp [jF,hd,hs]
theorem sK {e:TypeId} {c:Nat} {ik:IntKind} {i:Int} (hd:T.desc t=some (.slice e)) (hs:cN T e=some k) :
 jF T t (.slice (some ⟨A,o,none⟩) n c) (.int ik i)=if 0<=i/\i < n then some (.pointer (some ⟨A,o+i.toNat*k,none⟩)) else none:=by simp [jF,hd,hs]
theorem wx {e:TypeId} {b:Nat} {z:List ae} (hd:T.desc t=some (.slice e)) (hi:T.info e=some (k,b,z)) (len:Nat) (parts:List (Nat × ae)) (h:Heap) :
 zl T t len parts h=if len*k > 16777216 || len > 16777216 then none else (sU (λi=>some (i*k,k)) (oU z len) parts).map λcs=>(.slice (some ⟨h.size,0,none⟩) len len,h.push (.row cs e false)):=by
 simp [zl,hd,hi]
theorem zxe (place:Nat->Option (Nat × Nat)) (cells:List ae):sU place cells []=some cells:=rfl
theorem zxf (cells:List ae) (i k:Nat) (v:ae) (rest:List (Nat × ae)) (h1:v.cells.size=k) (h2:i*k+k<=cells.length) :
 sU (λi=>some (i*k,k)) cells ((i,v)::rest)=sU (λi=>some (i*k,k)) (aF cells (i*k) v.cells.toList) rest:=by
 simp [sU,h1,h2]
theorem wrap_i64 {i:Int} (h1 : -9223372036854775808<=i) (h2:i < 9223372036854775808):IntKind.i64.wrap i=i:=by
 show (if (true && decide (i % (2 ^ 64:Int) >= (2 ^ 63:Int)))=true then i % (2 ^ 64:Int) - (2 ^ 64:Int) else i % (2 ^ 64:Int))=i
 by_cases hc:i % (2 ^ 64:Int) >= (2 ^ 63:Int)
 .rw [aE (by simpa using hc)];omega
 .rw [az (by simpa using hc)];omega
theorem zAw {cs:List ae} (hg:ct T t=some false):wk T t cs o=cs[o]? := by simp [wk,hg]

def rY (b:Bool) (h:Heap) (K:aG):Prop:=(b=true->K (.bool true) h)/\(b=false->K (.bool false) h)
theorem zzb (b:Bool) (h:Heap) (K:aG):aD (some (.bool b)) h K=rY b h K:=by
 cases b <;> simp [aD,rY]
theorem zuy (h:Heap) (K:aG):rY true h K=K (.bool true) h:=by simp [rY]
theorem zrx (h:Heap) (K:aG):rY false h K=K (.bool false) h:=by simp [rY]
theorem zBa (k:IntKind) (i:Int) (h:Heap) (K:aG):aD (some (.int k i)) h K=K (.int k i) h:=rfl
theorem zBc (s:aB) (h:Heap) (K:aG):aD (some (.string s)) h K=K (.string s) h:=rfl
theorem zBb (a:Option Addr) (h:Heap) (K:aG):aD (some (.pointer a)) h K=K (.pointer a) h:=rfl
theorem zv9 (a:Option Addr) (n c:Nat) (h:Heap) (K:aG):aD (some (.slice a n c)) h K=K (.slice a n c) h:=rfl
theorem zA9 (cs:Array ae) (h:Heap) (K:aG):aD (some (.agg cs)) h K=K (.agg cs) h:=rfl
theorem zzc (f:FuncId) (a b:Array ae) (h:Heap) (K:aG):aD (some (.func (.func f) a b)) h K=K (.func (.func f) a b) h:=rfl

theorem cy.one {o:Oper} {e:Env} {h:Heap} {K:aG} (hw:cy P T ov o e h K):∃ v h',K v h'/\∀ K':aG,K' v h'->cy P T ov o e h K':=by
 unfold cy at hw
 split at hw
 .rename_i f args iy aZ
  split at hw
  .rename_i g fi ca hf
   obtain ⟨n,v,h',h1,h2⟩:=hw
   refine ⟨v,h',h2,λK' hk=>?_⟩
   unfold cy
   simp only [aZ,hf]
   exact ⟨n,v,h',h1,hk⟩
  .rename_i A fi ca hf
   obtain ⟨hc,n,v,h',h1,h2⟩:=hw
   refine ⟨v,h',h2,λK' hk=>?_⟩
   unfold cy
   simp only [aZ,hf]
   exact ⟨hc,n,v,h',h1,hk⟩
  .exact hw.elim
 .rename_i r name args iy aZ
  split at hw
  .rename_i t x hr
   split at hw
   .rename_i f y hm
    obtain ⟨n,v,h',h1,h2⟩:=hw
    refine ⟨v,h',h2,λK' hk=>?_⟩
    unfold cy
    simp only [aZ,hr,hm]
    exact ⟨n,v,h',h1,hk⟩
   .exact hw.elim
  .exact hw.elim
 .rename_i jd GD
  unfold dx at hw
  split at hw
  .rename_i v h' h1
   refine ⟨v,h',hw,λK' hk=>?_⟩
   unfold cy
   split
   .rename_i f args iy aZ;exact (jd f args iy aZ).elim
   .rename_i r name args iy aZ;exact (GD r name args iy aZ).elim
   .rw [h1];exact hk
  .exact hw.elim
theorem dA.one {ops:Array Oper}:∀ (l:List Oper) (e:Env) (h:Heap) (Q:Env->Heap->Prop),dA P T ov ops l e h Q->∃ e' h',Q e' h'/\∀ Q':Env->Heap->Prop,Q' e' h'->dA P T ov ops l e h Q'
 | [],e,h,Q,hw=>⟨e,h,hw,λ_ hq=>hq⟩
 |o::l,e,h,Q,hw=>by
  simp only [dA,sV] at hw ⊢
  split at hw
  .rename_i iE
   obtain ⟨v,h1,h2,h3⟩:=cy.one hw
   obtain ⟨e',h',h4,h5⟩:=dA.one l _ _ _ h2
   exact ⟨e',h',h4,λQ' hq=>by rw [aE iE];exact h3 _ (h5 Q' hq)⟩
  .rename_i iE
   obtain ⟨e',h',h4,h5⟩:=dA.one l _ _ _ hw
   exact ⟨e',h',h4,λQ' hq=>by rw [az iE];exact h5 Q' hq⟩
theorem cn.one {ops:Array Oper}:∀ (l:List Oper) (ks:List Nat) (e:Env) (h:Heap) (Q:List Nat->Env->Heap->Prop),cn P T ov ops l ks e h Q->∃ eI e' h',Q eI e' h'/\∀ Q':List Nat->Env->Heap->Prop,Q' eI e' h'->cn P T ov ops l ks e h Q'
 | [],ks,e,h,Q,hw=>⟨ks,e,h,hw,λ_ hq=>hq⟩
 |o::l,ks,e,h,Q,hw=>by
  simp only [cn,sV] at hw ⊢
  split at hw
  .rename_i iE
   obtain ⟨v,h1,h2,h3⟩:=cy.one hw
   obtain ⟨eI,e',h',h4,h5⟩:=cn.one l _ _ _ _ h2
   exact ⟨eI,e',h',h4,λQ' hq=>by rw [aE iE];exact h3 _ (h5 Q' hq)⟩
  .rename_i iE
   obtain ⟨eI,e',h',h4,h5⟩:=cn.one l _ _ _ _ hw
   exact ⟨eI,e',h',h4,λQ' hq=>by rw [az iE];exact h5 Q' hq⟩
def Sr (P:Program) (T:bL) (ov:Ov) (rd:Option Nat) (c:Code) (Q:Ex->Env->Heap->Prop):Ex->Env->Heap->Prop
 | .normal,e',h'=>W P T ov rd (.loop c) e' h' Q
 | .exit i,e',h'=>Q (.exit i) e' h'
 | .ret,e',h'=>Q .ret e' h'
section
variable {rd:Option Nat}
theorem W.one:∀ (c:Code) (e:Env) (h:Heap) (Q:Ex->Env->Heap->Prop),W P T ov rd c e h Q->∃ x e' h',Q x e' h'/\∀ Q':Ex->Env->Heap->Prop,Q' x e' h'->W P T ov rd c e h Q':=by
 intro c
 induction c with
 |skip=>intro e h Q hw;exact ⟨_,_,_,hw,λ_ hq=>hq⟩
 |region id ops d =>
  intro e h Q hw
  cases d with
  |false =>
   obtain ⟨e',h',h1,h2⟩:=dA.one _ _ _ _ hw
   exact ⟨_,e',h',h1,λQ' hq=>h2 _ hq⟩
  |true =>
   obtain ⟨ks,e',h',h1,h2⟩:=cn.one _ _ _ _ _ hw
   exact ⟨_,e',h',h1.2,λQ' hq=>h2 _ ⟨h1.1,hq⟩⟩
 |seq a b jU jV =>
  intro e h Q hw
  simp only [W] at hw ⊢
  obtain ⟨x,e1,h1,h2,h3⟩:=jU _ _ _ hw
  cases x with
  |normal =>
   obtain ⟨x,e2,h4,h5,h6⟩:=jV _ _ _ h2
   exact ⟨x,e2,h4,h5,λQ' hq=>h3 _ (h6 Q' hq)⟩
  |exit id=>exact ⟨_,e1,h1,h2,λQ' hq=>h3 _ hq⟩
  |ret=>exact ⟨_,e1,h1,h2,λQ' hq=>h3 _ hq⟩
 |cond c a b jU jV =>
  intro e h Q hw
  simp only [W,Ie] at hw ⊢
  split at hw
  .rename_i t ht
   cases t with
   |true =>
    obtain ⟨x,e1,h1,h2,h3⟩:=jU _ _ _ (hw.1 rfl)
    exact ⟨x,e1,h1,h2,λQ' hq=>⟨λ_=>h3 Q' hq,λhh=>nomatch hh⟩⟩
   |false =>
    obtain ⟨x,e1,h1,h2,h3⟩:=jV _ _ _ (hw.2 rfl)
    exact ⟨x,e1,h1,h2,λQ' hq=>⟨λhh=>(nomatch hh),λ_=>h3 Q' hq⟩⟩
  .exact hw.elim
 |block id c ih =>
  intro e h Q hw
  simp only [W] at hw ⊢
  obtain ⟨x,e1,h1,h2,h3⟩:=ih _ _ _ hw
  cases x with
  |normal=>exact ⟨.normal,e1,h1,h2,λQ' hq=>h3 _ hq⟩
  |exit i =>
   by_cases hi:i=id
   .simp only [aE hi] at h2
    exact ⟨.normal,e1,h1,h2,λQ' hq=>h3 _ (by simp only [aE hi];exact hq)⟩
   .simp only [az hi] at h2
    exact ⟨.exit i,e1,h1,h2,λQ' hq=>h3 _ (by simp only [az hi];exact hq)⟩
  |ret=>exact ⟨.ret,e1,h1,h2,λQ' hq=>h3 _ hq⟩
 |loop c ih =>
  intro e h Q hw
  simp only [W] at hw ⊢
  obtain ⟨n,hw⟩:=hw
  induction n generalizing e h with
  |zero=>exact hw.elim
  |succ n ZP =>
   simp only [ep] at hw
   obtain ⟨x,e1,h1,h2,h3⟩:=ih _ _ _ hw
   cases x with
   |normal =>
    obtain ⟨x,e2,h4,h5,h6⟩:=ZP _ _ h2
    refine ⟨x,e2,h4,h5,λQ' hq=>?_⟩
    obtain ⟨m,hm⟩:=h6 Q' hq
    exact ⟨m+1,by simp only [ep];exact h3 _ hm⟩
   |exit id=>exact ⟨.exit id,e1,h1,h2,λQ' hq=>⟨1,by simp only [ep];exact h3 _ hq⟩⟩
   |ret=>exact ⟨.ret,e1,h1,h2,λQ' hq=>⟨1,by simp only [ep];exact h3 _ hq⟩⟩
 |exit id=>intro e h Q hw;exact ⟨_,_,_,hw,λ_ hq=>hq⟩
 |ret=>intro e h Q hw;exact ⟨_,_,_,hw,λ_ hq=>hq⟩
 |label l=>intro e h Q hw;exact ⟨_,_,_,hw,λ_ hq=>hq⟩
 |rangeFunc g ps a b _ _ =>
  intro e h Q hw
  simp only [W,C1] at hw
  split at hw
  .rename_i f fi ca hg
   obtain ⟨hc,n,v,h1,h2,h3⟩:=hw
   unfold Kg at h3
   split at h3
   .rename_i x e' h' h4
    refine ⟨x,e',h',h3,λQ' hq=>?_⟩
    simp only [W,C1,hg]
    exact ⟨hc,n,v,h1,h2,by show Kg (Et h.size e h1) Q';rw [h4];exact hq⟩
   .exact h3.elim
  .exact hw.elim
 |scope c ih=>intro e h Q hw;exact ih _ _ _ hw
 |goto l=>intro e h Q hw;exact hw.elim
 |refuse s=>intro e h Q hw;exact hw.elim
theorem Ry {c:Code} {e:Env} {h:Heap} {Q:Ex->Env->Heap->Prop} (hw:W P T ov rd c e h (Sr P T ov rd c Q)):W P T ov rd (.loop c) e h Q:=by
 obtain ⟨x,e1,h1,h2,h3⟩:=W.one _ _ _ _ hw
 simp only [W]
 cases x with
 |normal =>
  simp only [Sr,W] at h2
  obtain ⟨n,hn⟩:=h2
  exact ⟨n+1,by simp only [ep];exact h3 _ hn⟩
 |exit id=>exact ⟨1,by simp only [ep];exact h3 _ h2⟩
 |ret=>exact ⟨1,by simp only [ep];exact h3 _ h2⟩
theorem znf (c:Code) (Q:Ex->Env->Heap->Prop) (e:Env) (h:Heap):Sr P T ov rd c Q .normal e h=W P T ov rd (.loop c) e h Q:=rfl
theorem zsd (c:Code) (Q:Ex->Env->Heap->Prop) (i:Nat) (e:Env) (h:Heap):Sr P T ov rd c Q (.exit i) e h=Q (.exit i) e h:=rfl
theorem zvC (c:Code) (Q:Ex->Env->Heap->Prop) (e:Env) (h:Heap):Sr P T ov rd c Q .ret e h=Q .ret e h:=rfl
end
theorem bK {t:Tmp} {K:aG} {e:Env} {h:Heap} (hr:fn.results=#[.tmp t]):eL T fn K .ret e h=K (e.get t) h:=by
 simp [eL,mV,hr,sM]
theorem zmN {t:Tmp} {y:TypeId} {K:aG} {e:Env} {h:Heap} (hr:fn.results=#[.cell t y]):eL T fn K .ret e h=aD (fW T y (e.get t) h) h K:=by
 simp only [eL,mV,hr,sM,aD]
 cases fW T y (e.get t) h <;> simp
theorem nN {t u:Tmp} {K:aG} {e:Env} {h:Heap} (hr:fn.results=#[.tmp t,.tmp u]):eL T fn K .ret e h=K (.tuple #[e.get t,e.get u]) h:=by
 simp [eL,mV,hr,sM]
end
noncomputable def Ek:=PLift.up (And.intro @zzn <| And.intro @zof <| And.intro @zvM <| And.intro @zsq <| And.intro @zzk <| And.intro @zDF <| And.intro @zzo <| And.intro @zxN <| And.intro @zDE <| And.intro @zws <| And.intro @zDB <| And.intro @zDC <| And.intro @zEA <| And.intro @zBO <| And.intro @zqs <| And.intro @zv2 <| And.intro @zy3 <| And.intro @zmv <| And.intro @zq7 <| And.intro @zuc <| And.intro @zuQ <| And.intro @zxB <| And.intro @znf <| And.intro @zsd <| And.intro @zvC <| And.intro @zEx <| And.intro @zBf <| And.intro @zEy <| And.intro @zvt <| And.intro @zr7 <| And.intro @zHo <| And.intro @zDs <| And.intro @zvs <| And.intro @zr6 <| And.intro @zqv <| And.intro @zEw <| And.intro @zDw <| And.intro @zxG <| And.intro @zwc <| And.intro @zz1 <| And.intro @zxL <| And.intro @zDr <| And.intro @zwa <| And.intro @zsH <| And.intro @zDv <| And.intro @zys <| And.intro @zyr <| And.intro @zsF <| And.intro @zDt <| And.intro @zsG <| And.intro @zze <| And.intro @zv4 <| And.intro @zEz <| And.intro @zqw <| And.intro @zDu <| And.intro @zHp <| And.intro @zEv <| And.intro @zHr <| And.intro @zHq <| And.intro @zzl <| And.intro @zwu <| And.intro @zt7 <| And.intro @sE <| And.intro @zyq <| And.intro @zzb <| And.intro @zuy <| And.intro @zrx <| And.intro @zBa <| And.intro @zBc <| And.intro @zBb <| And.intro @zv9 <| And.intro @zA9 <| And.intro @zzc <| And.intro @zuq <| And.intro @zrg <| And.intro @zzf <| And.intro @zDx <| And.intro @zuv <| And.intro @zuu <| And.intro @zrz <| And.intro @zzL <| And.intro @zzK <| And.intro @zzJ <| And.intro @zzI <| And.intro @zBY <| And.intro @zB9 <| And.intro @zB0 <| And.intro @zB5 <| And.intro @zB4 <| And.intro @zB3 <| And.intro @zB2 <| And.intro @zB1 <| And.intro @zzR <| And.intro @bf <| And.intro @zrK <| And.intro @gH <| And.intro @zwK <| And.intro @zzz <| @wrap_i64)
theorem syms:type_of% Ek.down:=Ek.down
theorem zHs (v:Value):∀ (h:Heap) (K:Value->Heap->Prop),aD (some v) h K=K v h:=λ_ _=>rfl
theorem apZ (s:ByteArray) (h:Heap) (K:Value->Heap->Prop):aD (some (.string s)) h K=K (.string s) h:=rfl
theorem apY (n:Int) (h:Heap) (K:Value->Heap->Prop):aD (some (.int .i64 n)) h K=K (.int .i64 n) h:=rfl
theorem dE (i:Nat) (h:i < 9223372036854775807):IntKind.i64.wrap ((i:Int)+1)=((i+1:Nat):Int):=by rw [wrap_i64 (by omega) (by omega)];omega
end Go.Am
