/- Steps of the plain machine, for simp. No condition. -/
import Derived.Test.YtmamldleclamjaaGreatDoorG2
set_option linter.unusedSimpArgs false
namespace Go.Am
variable {A k n o:Nat} {t:TypeId} {fn:Func}

def Heap.lay (h:Heap) (l:List ba) (w:Nat):Heap:={ l.foldl Heap.push h with low:=w }

theorem SI (l:List ba):∀ h:Heap,(l.foldl Heap.push h).size=h.size+l.length:=by
 induction l with
 |nil=>intro h;rfl
 |cons b l ih=>intro h;rw [uG,ih,Heap.size_push,dY];omega
theorem zlI (h:Heap) (w A:Nat):Heap.get { h with low:=w } A=h.get A:=rfl
theorem zoM (l:List ba):∀ (h:Heap) (A:Nat),(l.foldl Heap.push h).get A=if h.size<=A then l[A - h.size]? else h.get A:=by
 induction l with
 |nil =>
  intro h A
  simp only [List.foldl_nil]
  split
  .rename_i hA
   simp only [Heap.get,List.getElem?_nil]
   rw [aA (by omega)]
  .rfl
 |cons b l ih =>
  intro h A
  rw [uG,ih,Heap.size_push,Heap.bC]
  by_cases h1:h.size+1<=A
  .rw [aB h1,aB (by omega),show A - h.size=(A - (h.size+1))+1 by omega,List.getElem?_cons_succ]
  .rw [aA h1]
   by_cases h2:A=h.size
   .rw [aB h2,aB (by omega),h2,Nat.sub_self,Ca]
   .rw [aA h2,aA (by omega)]

section
variable (h:Heap) (l:List ba) (w:Nat)
theorem bd:(h.lay l w).size=h.size+l.length:=SI l h
theorem zq1:(h.lay l w).low=w:=rfl
theorem zy2 (b:ba):(h.lay l w).push b=h.lay (l++[b]) w:=by
 simp only [Heap.lay,List.foldl_append,uG,List.foldl_nil]
 rfl
theorem iB (i:Nat):(h.lay l w).get (h.size+i)=l[i]? := by
 unfold Heap.lay
 rw [zlI,zoM,aB (by omega),show h.size+i - h.size=i by omega]
theorem uo (hA:A < h.size):(h.lay l w).get A=h.get A:=by
 unfold Heap.lay
 rw [zlI,zoM,aA (by omega)]
theorem ao:h=h.lay [] h.low:=rfl
theorem TD (hw:min h.low h.size<=w):Ext h (h.lay l w):=⟨by rw [bd];omega,λA hA=>uo h l w hA,hw⟩
theorem Ext.at {h':Heap} (e:Ext (h.lay l w) h') (i:Nat) {b:ba} (hi:l[i]? = some b):h'.get (h.size+i)=some b:=by
 have:i < l.length:=(dH.1 hi).1
 rw [e.get _ (by rw [bd];omega),iB,hi]
end

section
variable {P:Program} {T:bO} {ov:Ov}
section
variable (d:Option Tmp) (ty:TypeId) (pos:String) (af:Array Edge) (g:Option (Nat × Bool)) (e:Env) (h:Heap) (K:aI)
def aH (r:Option ah) (h:Heap) (K:aI):Prop:=match r with
 |some v=>K v h
 |none=>False
theorem zDG (x:Operand):cS P T ov ⟨d,.move x,ty,pos,af,g⟩ e h K=K (bz e x) h:=rfl
theorem zAb (x:Operand):cS P T ov ⟨d,.assign x,ty,pos,af,g⟩ e h K=K (bz e x) h:=rfl
def ZT (c a b:ah):Option ah:=match c with | .bool t=>some (if t then a else b)|_=>none
theorem zuD (a b:ah):ZT (.bool true) a b=some a:=rfl
theorem zri (a b:ah):ZT (.bool false) a b=some b:=rfl
theorem wP (r:Option ah):dw (r.map λv=>(v,h)) K=aH r h K:=by cases r <;> rfl
theorem zDH (c a b:Operand):cS P T ov ⟨d,.pick c a b,ty,pos,af,g⟩ e h K=aH (ZT (bz e c) (bz e a) (bz e b)) h K:=by
 show dw (zFk (bz e c) (bz e a) (bz e b) h) K=_
 cases bz e c <;> rfl
theorem zCz (t:TypeId) {b:Nat} {z:List ah} (hz:T.info t=some (n,b,z)):cS P T ov ⟨d,.alloc t,ty,pos,af,g⟩ e h K=K (.pointer (some ⟨h.size,0,none⟩)) (h.push (.row z t false)):=by
 show dw ((T.info t).map λ(_,_,z)=>newRow t z h) K=_
 rw [hz];rfl
theorem zFv (t:TypeId) (x:Operand):cS P T ov ⟨d,.box t x,ty,pos,af,g⟩ e h K=K (.pointer (some ⟨h.size,0,none⟩)) (h.push (.row (bz e x).cells.toList t false)):=rfl
def Hw (e:Env):List (Nat × Operand)->List (Nat × ah)
 | []=>[]
 |(i,x)::l=>(i,bz e x)::Hw e l
theorem zps (l:List (Nat × Operand)):l.map (λ(i,x)=>(i,bz e x))=Hw e l:=by
 induction l with
 |nil=>rfl
 |cons a l ih=>rw [lA,ih];rfl
theorem zuC:Hw e []=[]:=rfl
theorem zrh (i:Nat) (x:Operand) (l:List (Nat × Operand)):Hw e ((i,x)::l)=(i,bz e x)::Hw e l:=rfl
theorem zCB (t:TypeId) (ps:List (Nat × Operand)):cS P T ov ⟨d,.build t ⟨ps⟩,ty,pos,af,g⟩ e h K=aH (qg T t (Hw e ps)) h K:=by
 rw [<- wP,<- zps];rfl
theorem zpZ (t:TypeId) (n:Nat) (ps:List (Nat × Operand)):cS P T ov ⟨d,.buildSlice t n ⟨ps⟩,ty,pos,af,g⟩ e h K=dw (yT T t n (Hw e ps) h) K:=by
 rw [<- zps];rfl
theorem zDF (t:TypeId) (x:Operand):cS P T ov ⟨d,.load t x,ty,pos,af,g⟩ e h K=aH (ic T t (bz e x) h) h K:=by rw [<- wP];rfl
def iq (r:Option Heap) (K:aI):Prop:=match r with
 |some h=>K undef h
 |none=>False
theorem zwP:iq (some h) K=K undef h:=rfl
theorem zCF (t:TypeId) (x y:Operand):cS P T ov ⟨d,.store t x y,ty,pos,af,g⟩ e h K=iq (iO T t (bz e x) (bz e y) h) K:=by
 show dw ((iO T t (bz e x) (bz e y) h).map λh'=>(undef,h')) K=_
 cases iO T t (bz e x) (bz e y) h <;> rfl
def Gw (v:ah):Option ah:=match v with
 | .pointer (some a)=>some (.pointer (some a))
 | .func (.func f) a b=>some (.func (.func f) a b)
 | .iface t a=>some (.iface t a)
 |_=>none
theorem zzc (a:Addr):Gw (.pointer (some a))=some (.pointer (some a)):=rfl
theorem zwT (f:FuncId) (a b:Array ah):Gw (.func (.func f) a b)=some (.func (.func f) a b):=rfl
theorem zvm (x:Operand):cS P T ov ⟨d,.nilCheck x,ty,pos,af,g⟩ e h K=aH (Gw (bz e x)) h K:=by
 show dw (Y6 (bz e x) h) K=_
 generalize bz e x=v
 cases v <;> try rfl
 .rename_i p;cases p <;> rfl
 .rename_i f a b;cases f <;> rfl
theorem zCA (op:BinOp) (t:TypeId) (x y:Operand) (yt:TypeId):cS P T ov ⟨d,.binOp op t x y yt,ty,pos,af,g⟩ e h K=aH (cm P T op t (bz e x) (bz e y)) h K:=by rw [<- wP];rfl
theorem zvk (f:FuncId) (fi ca:List Operand):cS P T ov ⟨d,.makeFunc (.func f) ⟨fi⟩ ⟨ca⟩,ty,pos,af,g⟩ e h K=K (.func (.func f) ⟨Ak e fi⟩ ⟨Ak e ca⟩) h:=by
 rw [<- P7,<- P7]
 show K (.func (.func f) (Array.map (bz e) ⟨fi⟩) (Array.map (bz e) ⟨ca⟩)) h=_
 congr 2 <;> simp
theorem zrR (t:TypeId) (l c:Operand):cS P T ov ⟨d,.makeSlice t l c,ty,pos,af,g⟩ e h K=dw (PN T t (bz e l) (bz e c) h) K:=rfl
def yK (e:Env):Option Operand->Option ah
 |some x=>some (bz e x)
 |none=>none
theorem zxw (x:Operand):yK e (some x)=some (bz e x):=rfl
theorem zxv:yK e none=none:=rfl
theorem zCE (t:TypeId) (x:Operand) (l hi m:Option Operand):cS P T ov ⟨d,.slice t x l hi m,ty,pos,af,g⟩ e h K=aH (jL T t (bz e x) (yK e l) (yK e hi) (yK e m)) h K:=by
 rw [<- wP];cases l <;> cases hi <;> cases m <;> rfl
theorem zrP (s:TypeId) (x:Operand) (f:Nat):cS P T ov ⟨d,.fieldAddr s x f,ty,pos,af,g⟩ e h K=aH (jg T s (bz e x) f) h K:=by rw [<- wP];rfl
theorem zCC (s:TypeId) (x:Operand) (f:Nat):cS P T ov ⟨d,.field s x f,ty,pos,af,g⟩ e h K=aH (QG T s (bz e x) f) h K:=by rw [<- wP];rfl
theorem zrQ (t:TypeId) (x i:Operand):cS P T ov ⟨d,.indexAddr t x i,ty,pos,af,g⟩ e h K=aH (kF T t (bz e x) (bz e i)) h K:=by rw [<- wP];rfl
def GG (v:ah) (i:Nat):Option ah:=match v with | .tuple vs=>vs[i]?|_=>none
theorem zvd (vs:List ah) (i:Nat):GG (.tuple ⟨vs⟩) i=vs[i]? := by simp [GG]
theorem zyo (t:Operand) (i:Nat):cS P T ov ⟨d,.extract t i,ty,pos,af,g⟩ e h K=aH (GG (bz e t) i) h K:=by
 rw [<- wP]
 show dw (Zx (bz e t) i h) K=_
 cases bz e t <;> rfl
theorem zDI (op:UnOp) (t:TypeId) (x:Operand):cS P T ov ⟨d,.unOp op t x,ty,pos,af,g⟩ e h K=dw (iZ P e ⟨d,.unOp op t x,ty,pos,af,g⟩ h) K:=rfl
theorem zp0 (s t:TypeId) (x:Operand) (h1:ur T s=false) (h2:ur T t=false):cS P T ov ⟨d,.convert s t x,ty,pos,af,g⟩ e h K=dw (iZ P e ⟨d,.convert s t x,ty,pos,af,g⟩ h) K:=by
 show dw (if ur T s then (To T s t (bz e x) h).map λr=>(r,h) else if ur T t then (if Td T s then Ja T t (bz e x) h else none) else iZ P e ⟨d,.convert s t x,ty,pos,af,g⟩ h) K=_
 rw [h1,h2]
 rfl
theorem zCD (t:TypeId) (x i:Operand):cS P T ov ⟨d,.index t x i,ty,pos,af,g⟩ e h K=dw (iZ P e ⟨d,.index t x i,ty,pos,af,g⟩ h) K:=rfl
theorem zFw (t:TypeId) (x:Operand):cS P T ov ⟨d,.call ⟨.builtin .len,#[x],#[t]⟩,ty,pos,af,g⟩ e h K=aH (bn T t (bz e x) h) h K:=by rw [<- wP];rfl
theorem ly (t u:TypeId) (s x:Operand) (hs:uB T t u=true):cS P T ov ⟨d,.call ⟨.builtin .append,#[s,x],#[t,u]⟩,ty,pos,af,g⟩ e h K=dw (iy T t (bz e s) (bz e x) h) K:=by
 show dw (if uB T t u then iy T t (bz e s) (bz e x) h else none) K=_
 rw [aB hs]
theorem zDE (t u:TypeId) (s x:Operand):cS P T ov ⟨d,.call ⟨.builtin .copy,#[s,x],#[t,u]⟩,ty,pos,af,g⟩ e h K=dw (QQ T t (bz e s) (bz e x) h) K:=rfl
theorem zFy (x y:Operand) (ats:Array TypeId):cS P T ov ⟨d,.call ⟨.builtin .min,#[x,y],ats⟩,ty,pos,af,g⟩ e h K=dw (iZ P e ⟨d,.call ⟨.builtin .min,#[x,y],ats⟩,ty,pos,af,g⟩ h) K:=rfl
theorem zFx (x y:Operand) (ats:Array TypeId):cS P T ov ⟨d,.call ⟨.builtin .max,#[x,y],ats⟩,ty,pos,af,g⟩ e h K=dw (iZ P e ⟨d,.call ⟨.builtin .max,#[x,y],ats⟩,ty,pos,af,g⟩ h) K:=rfl
end

def DY:List Oper->Nat->Option Tmp
 | [],_=>none
 |o::_,0=>o.dst
 |_::l,n+1=>DY l n
theorem zsd:∀ (l:List Oper) (j:Nat),(l[j]?).bind (·.dst)=DY l j
 | [],j=>by simp [DY]
 |o::l,0=>by simp [DY]
 |o::l,j+1=>by rw [List.getElem?_cons_succ,zsd l j];rfl
theorem ztP (o:Oper) (l:List Oper):DY (o::l) 0=o.dst:=rfl
theorem ztO (o:Oper) (l:List Oper) (n:Nat):DY (o::l) (n+1)=DY l n:=rfl
def zAq (t:Option Tmp) (e:Env) (b:Bool):Bool:=match t with|some t=>B7 (e.get t) b|none=>false
theorem zqU (t:Tmp) (e:Env) (b:Bool):zAq (some t) e b=B7 (e.get t) b:=rfl
theorem zCG (ops:List Oper) (d:Option Tmp) (op:Op) (ty:TypeId) (pos:String) (af:Array Edge) (e:Env) (j:Nat) (b:Bool):nx ⟨ops⟩ ⟨d,op,ty,pos,af,some (j,b)⟩ e=zAq (DY ops j) e b:=by
 rw [<- zsd]
 simp only [nx,List.getElem?_toArray]
 cases (ops[j]?).bind (·.dst) <;> rfl
theorem zyV:B7 (.bool true) true=true:=rfl
theorem zyS:B7 (.bool false) false=true:=rfl
theorem zyU:B7 (.bool true) false=false:=rfl
theorem zyT:B7 (.bool false) true=false:=rfl

def JN (b:Option ba) (o:Nat):Option ah:=match b with
 |some (.row cs _ _)=>cs[o]?
 |_=>none
theorem zvS (cs:List ah) (e:TypeId) (r:Bool) (o:Nat):JN (some (.row cs e r)) o=cs[o]? := rfl
def AR (b:Option ba) (o n:Nat):Option ah:=match b with
 |some (.row cs _ _)=>(cut cs o n).map λl=>.agg l.toArray
 |_=>none
theorem zyF (cs:List ah) (e:TypeId) (r:Bool) (o n:Nat):AR (some (.row cs e r)) o n=(cut cs o n).map λl=>.agg l.toArray:=rfl
theorem qe {h:Heap} (hg:cO T t=some false):ic T t (.pointer (some ⟨A,o,none⟩)) h=JN (h.get A) o:=by
 simp only [ic,hg,dX,iQ]
 cases h.get A with
 |none=>rfl
 |some b =>
  cases b with
  |dead=>rfl
  |map es c=>rfl
  |loop _ _ _ _ _ _=>rfl
  |row cs e r =>
   simp only [cut,JN,gB,if_false]
   split
   .rename_i hl
    simp [kL]
   .rename_i hl
    rw [Hu (by omega)];rfl
theorem zZ {h:Heap} (hg:cO T t=some true) (hs:di T t=some n):ic T t (.pointer (some ⟨A,o,none⟩)) h=AR (h.get A) o n:=by
 simp only [ic,hg,hs,dX,iQ,if_true]
 cases h.get A with
 |none=>rfl
 |some b=>cases b <;> rfl
theorem zy6 {s:au} {h:Heap} (hd:T.desc t=some .string):bn T t (.string s) h=some (.int .i64 s.size):=by simp [bn,hd]
theorem vI {e:TypeId} {a:Option Addr} {c:Nat} {h:Heap} (hd:T.desc t=some (.slice e)):bn T t (.slice a n c) h=some (.int .i64 n):=by simp [bn,hd]
theorem zBD {e:TypeId} {m:Nat} {ik:IntKind} {i:Int} (hd:T.desc t=some (.array m e)) (hs:di T e=some k) :
 kF T t (.pointer (some ⟨A,o,none⟩)) (.int ik i)=if 0<=i/\i < m then some (.pointer (some ⟨A,o+i.toNat*k,none⟩)) else none:=by simp [kF,hd,hs]
theorem vL {e:TypeId} {c:Nat} {ik:IntKind} {i:Int} (hd:T.desc t=some (.slice e)) (hs:di T e=some k) :
 kF T t (.slice (some ⟨A,o,none⟩) n c) (.int ik i)=if 0<=i/\i < n then some (.pointer (some ⟨A,o+i.toNat*k,none⟩)) else none:=by simp [kF,hd,hs]
theorem Cm {e:TypeId} {b:Nat} {z:List ah} (hd:T.desc t=some (.slice e)) (hi:T.info e=some (k,b,z)) (len:Nat) (parts:List (Nat × ah)) (h:Heap) :
 yT T t len parts h=if len*k > 16777216 || len > 16777216 then none else (uE (λi=>some (i*k,k)) (oH z len) parts).map λcs=>(.slice (some ⟨h.size,0,none⟩) len len,h.push (.row cs e false)):=by
 simp [yT,hd,hi]
theorem zwq (place:Nat->Option (Nat × Nat)) (cells:List ah):uE place cells []=some cells:=rfl
theorem zwr (cells:List ah) (i k:Nat) (v:ah) (rest:List (Nat × ah)) (h1:v.cells.size=k) (h2:i*k+k<=cells.length) :
 uE (λi=>some (i*k,k)) cells ((i,v)::rest)=uE (λi=>some (i*k,k)) (aF cells (i*k) v.cells.toList) rest:=by
 simp [uE,h1,h2]
theorem wrap_i64 {i:Int} (h1 : -9223372036854775808<=i) (h2:i < 9223372036854775808):IntKind.i64.wrap i=i:=by
 show (if (true && decide (i % (2 ^ 64:Int) >= (2 ^ 63:Int)))=true then i % (2 ^ 64:Int) - (2 ^ 64:Int) else i % (2 ^ 64:Int))=i
 by_cases hc:i % (2 ^ 64:Int) >= (2 ^ 63:Int)
 .rw [aB (by simpa using hc)];omega
 .rw [aA (by simpa using hc)];omega
theorem zsP {cs:List ah} (hg:cO T t=some false):v7 T t cs o=cs[o]? := by simp [v7,hg]

def sj (b:Bool) (h:Heap) (K:aI):Prop:=(b=true->K (.bool true) h)/\(b=false->K (.bool false) h)
theorem zyk (b:Bool) (h:Heap) (K:aI):aH (some (.bool b)) h K=sj b h K:=by
 cases b <;> simp [aH,sj]
theorem ztS (h:Heap) (K:aI):sj true h K=K (.bool true) h:=by simp [sj]
theorem zqS (h:Heap) (K:aI):sj false h K=K (.bool false) h:=by simp [sj]
theorem zz7 (k:IntKind) (i:Int) (h:Heap) (K:aI):aH (some (.int k i)) h K=K (.int k i) h:=rfl
theorem zz9 (s:au) (h:Heap) (K:aI):aH (some (.string s)) h K=K (.string s) h:=rfl
theorem zz8 (a:Option Addr) (h:Heap) (K:aI):aH (some (.pointer a)) h K=K (.pointer a) h:=rfl
theorem zvi (a:Option Addr) (n c:Nat) (h:Heap) (K:aI):aH (some (.slice a n c)) h K=K (.slice a n c) h:=rfl
theorem zz6 (cs:Array ah) (h:Heap) (K:aI):aH (some (.agg cs)) h K=K (.agg cs) h:=rfl
theorem zyl (f:FuncId) (a b:Array ah) (h:Heap) (K:aI):aH (some (.func (.func f) a b)) h K=K (.func (.func f) a b) h:=rfl

theorem cS.one {o:Oper} {e:Env} {h:Heap} {K:aI} (hw:cS P T ov o e h K):∃ v h',K v h'/\∀ K':aI,K' v h'->cS P T ov o e h K':=by
 unfold cS at hw
 split at hw
 .rename_i f args ats aT
  split at hw
  .rename_i g fi ca hf
   obtain ⟨n,v,h',h1,h2⟩:=hw
   refine ⟨v,h',h2,λK' hk=>?_⟩
   unfold cS
   simp only [aT,hf]
   exact ⟨n,v,h',h1,hk⟩
  .rename_i A fi ca hf
   obtain ⟨hc,n,v,h',h1,h2⟩:=hw
   refine ⟨v,h',h2,λK' hk=>?_⟩
   unfold cS
   simp only [aT,hf]
   exact ⟨hc,n,v,h',h1,hk⟩
  .exact hw.elim
 .rename_i r name args ats aT
  split at hw
  .rename_i t x hr
   split at hw
   .rename_i f y hm
    obtain ⟨n,v,h',h1,h2⟩:=hw
    refine ⟨v,h',h2,λK' hk=>?_⟩
    unfold cS
    simp only [aT,hr,hm]
    exact ⟨n,v,h',h1,hk⟩
   .exact hw.elim
  .exact hw.elim
 .rename_i kZ ta
  unfold dw at hw
  split at hw
  .rename_i v h' h1
   refine ⟨v,h',hw,λK' hk=>?_⟩
   unfold cS
   split
   .rename_i f args ats aT;exact (kZ f args ats aT).elim
   .rename_i r name args ats aT;exact (ta r name args ats aT).elim
   .rw [h1];exact hk
  .exact hw.elim
theorem dg.one {ops:Array Oper}:∀ (l:List Oper) (e:Env) (h:Heap) (Q:Env->Heap->Prop),dg P T ov ops l e h Q->∃ e' h',Q e' h'/\∀ Q':Env->Heap->Prop,Q' e' h'->dg P T ov ops l e h Q'
 | [],e,h,Q,hw=>⟨e,h,hw,λ_ hq=>hq⟩
 |o::l,e,h,Q,hw=>by
  simp only [dg,rC] at hw ⊢
  split at hw
  .rename_i gW
   obtain ⟨v,h1,h2,h3⟩:=cS.one hw
   obtain ⟨e',h',h4,h5⟩:=dg.one l _ _ _ h2
   exact ⟨e',h',h4,λQ' hq=>by rw [aB gW];exact h3 _ (h5 Q' hq)⟩
  .rename_i gW
   obtain ⟨e',h',h4,h5⟩:=dg.one l _ _ _ hw
   exact ⟨e',h',h4,λQ' hq=>by rw [aA gW];exact h5 Q' hq⟩
theorem cB.one {ops:Array Oper}:∀ (l:List Oper) (ks:List Nat) (e:Env) (h:Heap) (Q:List Nat->Env->Heap->Prop),cB P T ov ops l ks e h Q->∃ eU e' h',Q eU e' h'/\∀ Q':List Nat->Env->Heap->Prop,Q' eU e' h'->cB P T ov ops l ks e h Q'
 | [],ks,e,h,Q,hw=>⟨ks,e,h,hw,λ_ hq=>hq⟩
 |o::l,ks,e,h,Q,hw=>by
  simp only [cB,rC] at hw ⊢
  split at hw
  .rename_i gW
   obtain ⟨v,h1,h2,h3⟩:=cS.one hw
   obtain ⟨eU,e',h',h4,h5⟩:=cB.one l _ _ _ _ h2
   exact ⟨eU,e',h',h4,λQ' hq=>by rw [aB gW];exact h3 _ (h5 Q' hq)⟩
  .rename_i gW
   obtain ⟨eU,e',h',h4,h5⟩:=cB.one l _ _ _ _ hw
   exact ⟨eU,e',h',h4,λQ' hq=>by rw [aA gW];exact h5 Q' hq⟩
def QM (P:Program) (T:bO) (ov:Ov) (rd:Option Nat) (c:Code) (Q:Ex->Env->Heap->Prop):Ex->Env->Heap->Prop
 | .normal,e',h'=>W P T ov rd (.loop c) e' h' Q
 | .exit i,e',h'=>Q (.exit i) e' h'
 | .ret,e',h'=>Q .ret e' h'
section
variable {rd:Option Nat}
theorem W.one:∀ (c:Code) (e:Env) (h:Heap) (Q:Ex->Env->Heap->Prop),W P T ov rd c e h Q->∃ x e' h',Q x e' h'/\∀ Q':Ex->Env->Heap->Prop,Q' x e' h'->W P T ov rd c e h Q':=by
 intro c
 induction c with
 |skip=>intro e h Q hw;exact ⟨_,_,_,hw,λ_ hq=>hq⟩
 |region id ops d =>
  intro e h Q hw
  cases d with
  |false =>
   obtain ⟨e',h',h1,h2⟩:=dg.one _ _ _ _ hw
   exact ⟨_,e',h',h1,λQ' hq=>h2 _ hq⟩
  |true =>
   obtain ⟨ks,e',h',h1,h2⟩:=cB.one _ _ _ _ _ hw
   exact ⟨_,e',h',h1.2,λQ' hq=>h2 _ ⟨h1.1,hq⟩⟩
 |seq a b jW jX =>
  intro e h Q hw
  simp only [W] at hw ⊢
  obtain ⟨x,e1,h1,h2,h3⟩:=jW _ _ _ hw
  cases x with
  |normal =>
   obtain ⟨x,e2,h4,h5,h6⟩:=jX _ _ _ h2
   exact ⟨x,e2,h4,h5,λQ' hq=>h3 _ (h6 Q' hq)⟩
  |exit id=>exact ⟨_,e1,h1,h2,λQ' hq=>h3 _ hq⟩
  |ret=>exact ⟨_,e1,h1,h2,λQ' hq=>h3 _ hq⟩
 |cond c a b jW jX =>
  intro e h Q hw
  simp only [W,ze] at hw ⊢
  split at hw
  .rename_i t ht
   cases t with
   |true =>
    obtain ⟨x,e1,h1,h2,h3⟩:=jW _ _ _ (hw.1 rfl)
    exact ⟨x,e1,h1,h2,λQ' hq=>⟨λ_=>h3 Q' hq,λhh=>nomatch hh⟩⟩
   |false =>
    obtain ⟨x,e1,h1,h2,h3⟩:=jX _ _ _ (hw.2 rfl)
    exact ⟨x,e1,h1,h2,λQ' hq=>⟨λhh=>(nomatch hh),λ_=>h3 Q' hq⟩⟩
  .exact hw.elim
 |block id c ih =>
  intro e h Q hw
  simp only [W] at hw ⊢
  obtain ⟨x,e1,h1,h2,h3⟩:=ih _ _ _ hw
  cases x with
  |normal=>exact ⟨.normal,e1,h1,h2,λQ' hq=>h3 _ hq⟩
  |exit i =>
   by_cases hi:i=id
   .simp only [aB hi] at h2
    exact ⟨.normal,e1,h1,h2,λQ' hq=>h3 _ (by simp only [aB hi];exact hq)⟩
   .simp only [aA hi] at h2
    exact ⟨.exit i,e1,h1,h2,λQ' hq=>h3 _ (by simp only [aA hi];exact hq)⟩
  |ret=>exact ⟨.ret,e1,h1,h2,λQ' hq=>h3 _ hq⟩
 |loop c ih =>
  intro e h Q hw
  simp only [W] at hw ⊢
  obtain ⟨n,hw⟩:=hw
  induction n generalizing e h with
  |zero=>exact hw.elim
  |succ n YR =>
   simp only [ek] at hw
   obtain ⟨x,e1,h1,h2,h3⟩:=ih _ _ _ hw
   cases x with
   |normal =>
    obtain ⟨x,e2,h4,h5,h6⟩:=YR _ _ h2
    refine ⟨x,e2,h4,h5,λQ' hq=>?_⟩
    obtain ⟨m,hm⟩:=h6 Q' hq
    exact ⟨m+1,by simp only [ek];exact h3 _ hm⟩
   |exit id=>exact ⟨.exit id,e1,h1,h2,λQ' hq=>⟨1,by simp only [ek];exact h3 _ hq⟩⟩
   |ret=>exact ⟨.ret,e1,h1,h2,λQ' hq=>⟨1,by simp only [ek];exact h3 _ hq⟩⟩
 |exit id=>intro e h Q hw;exact ⟨_,_,_,hw,λ_ hq=>hq⟩
 |ret=>intro e h Q hw;exact ⟨_,_,_,hw,λ_ hq=>hq⟩
 |label l=>intro e h Q hw;exact ⟨_,_,_,hw,λ_ hq=>hq⟩
 |rangeFunc g ps a b _ _ =>
  intro e h Q hw
  simp only [W,Jz] at hw
  split at hw
  .rename_i f fi ca hg
   obtain ⟨hc,n,v,h1,h2,h3⟩:=hw
   unfold QP at h3
   split at h3
   .rename_i x e' h' h4
    refine ⟨x,e',h',h3,λQ' hq=>?_⟩
    simp only [W,Jz,hg]
    exact ⟨hc,n,v,h1,h2,by show QP (IQ h.size e h1) Q';rw [h4];exact hq⟩
   .exact h3.elim
  .exact hw.elim
 |scope c ih=>intro e h Q hw;exact ih _ _ _ hw
 |goto l=>intro e h Q hw;exact hw.elim
 |refuse s=>intro e h Q hw;exact hw.elim
theorem P6 {c:Code} {e:Env} {h:Heap} {Q:Ex->Env->Heap->Prop} (hw:W P T ov rd c e h (QM P T ov rd c Q)):W P T ov rd (.loop c) e h Q:=by
 obtain ⟨x,e1,h1,h2,h3⟩:=W.one _ _ _ _ hw
 simp only [W]
 cases x with
 |normal =>
  simp only [QM,W] at h2
  obtain ⟨n,hn⟩:=h2
  exact ⟨n+1,by simp only [ek];exact h3 _ hn⟩
 |exit id=>exact ⟨1,by simp only [ek];exact h3 _ h2⟩
 |ret=>exact ⟨1,by simp only [ek];exact h3 _ h2⟩
theorem zni (c:Code) (Q:Ex->Env->Heap->Prop) (e:Env) (h:Heap):QM P T ov rd c Q .normal e h=W P T ov rd (.loop c) e h Q:=rfl
theorem zrp (c:Code) (Q:Ex->Env->Heap->Prop) (i:Nat) (e:Env) (h:Heap):QM P T ov rd c Q (.exit i) e h=Q (.exit i) e h:=rfl
theorem zuL (c:Code) (Q:Ex->Env->Heap->Prop) (e:Env) (h:Heap):QM P T ov rd c Q .ret e h=Q .ret e h:=rfl
end
theorem bV {t:Tmp} {K:aI} {e:Env} {h:Heap} (hr:fn.results=#[.tmp t]):jo T fn K .ret e h=K (e.get t) h:=by
 simp [jo,qf,hr,Ae]
theorem zyL {t:Tmp} {y:TypeId} {K:aI} {e:Env} {h:Heap} (hr:fn.results=#[.cell t y]):jo T fn K .ret e h=aH (ic T y (e.get t) h) h K:=by
 simp only [jo,qf,hr,Ae,aH]
 cases ic T y (e.get t) h <;> simp
theorem rr {t u:Tmp} {K:aI} {e:Env} {h:Heap} (hr:fn.results=#[.tmp t,.tmp u]):jo T fn K .ret e h=K (.tuple #[e.get t,e.get u]) h:=by
 simp [jo,qf,hr,Ae]
end
noncomputable def Dg:=PLift.up (And.intro @zyu <| And.intro @zn0 <| And.intro @zuX <| And.intro @zrC <| And.intro @zys <| And.intro @zCP <| And.intro @zyv <| And.intro @zwV <| And.intro @zCO <| And.intro @zvz <| And.intro @zCL <| And.intro @zCM <| And.intro @zDJ <| And.intro @zAJ <| And.intro @zpY <| And.intro @zvb <| And.intro @zx9 <| And.intro @zmF <| And.intro @zqv <| And.intro @ztv <| And.intro @zt3 <| And.intro @zwL <| And.intro @zni <| And.intro @zrp <| And.intro @zuL <| And.intro @zDG <| And.intro @zAb <| And.intro @zDH <| And.intro @zuD <| And.intro @zri <| And.intro @zFv <| And.intro @zCB <| And.intro @zuC <| And.intro @zrh <| And.intro @zpZ <| And.intro @zDF <| And.intro @zCF <| And.intro @zwP <| And.intro @zvm <| And.intro @zzc <| And.intro @zwT <| And.intro @zCA <| And.intro @zvk <| And.intro @zrR <| And.intro @zCE <| And.intro @zxw <| And.intro @zxv <| And.intro @zrP <| And.intro @zCC <| And.intro @zrQ <| And.intro @zyo <| And.intro @zvd <| And.intro @zDI <| And.intro @zp0 <| And.intro @zCD <| And.intro @zFw <| And.intro @zDE <| And.intro @zFy <| And.intro @zFx <| And.intro @zyt <| And.intro @zvE <| And.intro @zto <| And.intro @rV <| And.intro @zxu <| And.intro @zyk <| And.intro @ztS <| And.intro @zqS <| And.intro @zz7 <| And.intro @zz9 <| And.intro @zz8 <| And.intro @zvi <| And.intro @zz6 <| And.intro @zyl <| And.intro @ztJ <| And.intro @zqD <| And.intro @zyp <| And.intro @zCG <| And.intro @ztP <| And.intro @ztO <| And.intro @zqU <| And.intro @zyV <| And.intro @zyU <| And.intro @zyT <| And.intro @zyS <| And.intro @zAY <| And.intro @zBa <| And.intro @zA0 <| And.intro @zA5 <| And.intro @zA4 <| And.intro @zA3 <| And.intro @zA2 <| And.intro @zA1 <| And.intro @zy2 <| And.intro @bd <| And.intro @zq1 <| And.intro @iB <| And.intro @zvS <| And.intro @zyF <| @wrap_i64)
theorem syms:type_of% Dg.down:=Dg.down
theorem zFz (v:Value):∀ (h:Heap) (K:Value->Heap->Prop),aH (some v) h K=K v h:=λ_ _=>rfl
theorem aoP (s:ByteArray) (h:Heap) (K:Value->Heap->Prop):aH (some (.string s)) h K=K (.string s) h:=rfl
theorem aoO (n:Int) (h:Heap) (K:Value->Heap->Prop):aH (some (.int .i64 n)) h K=K (.int .i64 n) h:=rfl
theorem ei (i:Nat) (h:i < 9223372036854775807):IntKind.i64.wrap ((i:Int)+1)=((i+1:Nat):Int):=by rw [wrap_i64 (by omega) (by omega)];omega
end Go.Am
