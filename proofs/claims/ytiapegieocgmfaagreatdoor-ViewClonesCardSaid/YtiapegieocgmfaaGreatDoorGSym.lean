/- Steps of the plain machine, for simp. No condition. -/
import Derived.Test.YtiapegieocgmfaaGreatDoorG2
set_option linter.unusedSimpArgs false
namespace Go.Am
variable {A k n o:Nat} {t:TypeId} {fn:Func}

def Heap.lay (h:Heap) (l:List ba) (w:Nat):Heap:={ l.foldl Heap.push h with low:=w }

theorem Tc (l:List ba):∀ h:Heap,(l.foldl Heap.push h).size=h.size+l.length:=by
 induction l with
 |nil=>intro h;rfl
 |cons b l ih=>intro h;rw [uM,ih,Heap.size_push,dn];omega
theorem zlt (h:Heap) (w A:Nat):Heap.get { h with low:=w } A=h.get A:=rfl
theorem zoE (l:List ba):∀ (h:Heap) (A:Nat),(l.foldl Heap.push h).get A=if h.size<=A then l[A - h.size]? else h.get A:=by
 induction l with
 |nil =>
  intro h A
  simp only [List.foldl_nil]
  split
  .rename_i hA
   simp only [Heap.get,List.getElem?_nil]
   rw [az (by omega)]
  .rfl
 |cons b l ih =>
  intro h A
  rw [uM,ih,Heap.size_push,Heap.bg]
  by_cases h1:h.size+1<=A
  .rw [aE h1,aE (by omega),show A - h.size=(A - (h.size+1))+1 by omega,List.getElem?_cons_succ]
  .rw [az h1]
   by_cases h2:A=h.size
   .rw [aE h2,aE (by omega),h2,EF,AK]
   .rw [az h2,az (by omega)]

section
variable (h:Heap) (l:List ba) (w:Nat)
theorem bc:(h.lay l w).size=h.size+l.length:=Tc l h
theorem zqY:(h.lay l w).low=w:=rfl
theorem zyz (b:ba):(h.lay l w).push b=h.lay (l++[b]) w:=by
 simp only [Heap.lay,List.foldl_append,uM,List.foldl_nil]
 rfl
theorem iB (i:Nat):(h.lay l w).get (h.size+i)=l[i]? := by
 unfold Heap.lay
 rw [zlt,zoE,aE (by omega),show h.size+i - h.size=i by omega]
theorem uz (hA:A < h.size):(h.lay l w).get A=h.get A:=by
 unfold Heap.lay
 rw [zlt,zoE,az (by omega)]
theorem ao:h=h.lay [] h.low:=rfl
theorem TT (hw:min h.low h.size<=w):Ext h (h.lay l w):=⟨by rw [bc];omega,λA hA=>uz h l w hA,hw⟩
theorem Ext.at {h':Heap} (e:Ext (h.lay l w) h') (i:Nat) {b:ba} (hi:l[i]? = some b):h'.get (h.size+i)=some b:=by
 have:i < l.length:=(dP.1 hi).1
 rw [e.get _ (by rw [bc];omega),iB,hi]
end

section
variable {P:Program} {T:bI} {ov:Ov}
section
variable (d:Option Tmp) (ty:TypeId) (pos:String) (af:Array Edge) (g:Option (Nat × Bool)) (e:Env) (h:Heap) (K:aF)
def aC (r:Option ab) (h:Heap) (K:aF):Prop:=match r with
 |some v=>K v h
 |none=>False
theorem zC6 (x:Operand):cS P T ov ⟨d,.move x,ty,pos,af,g⟩ e h K=K (bt e x) h:=rfl
theorem zzO (x:Operand):cS P T ov ⟨d,.assign x,ty,pos,af,g⟩ e h K=K (bt e x) h:=rfl
def zBx (c a b:ab):Option ab:=match c with | .bool t=>some (if t then a else b)|_=>none
theorem zuu (a b:ab):zBx (.bool true) a b=some a:=rfl
theorem zrg (a b:ab):zBx (.bool false) a b=some b:=rfl
theorem xf (r:Option ab):dD (r.map λv=>(v,h)) K=aC r h K:=by cases r <;> rfl
theorem zC7 (c a b:Operand):cS P T ov ⟨d,.pick c a b,ty,pos,af,g⟩ e h K=aC (zBx (bt e c) (bt e a) (bt e b)) h K:=by
 show dD (zET (bt e c) (bt e a) (bt e b) h) K=_
 cases bt e c <;> rfl
theorem zBQ (t:TypeId) {b:Nat} {z:List ab} (hz:T.info t=some (n,b,z)):cS P T ov ⟨d,.alloc t,ty,pos,af,g⟩ e h K=K (.pointer (some ⟨h.size,0,none⟩)) (h.push (.row z t false)):=by
 show dD ((T.info t).map λ(_,_,z)=>newRow t z h) K=_
 rw [hz];rfl
theorem zE4 (t:TypeId) (x:Operand):cS P T ov ⟨d,.box t x,ty,pos,af,g⟩ e h K=K (.pointer (some ⟨h.size,0,none⟩)) (h.push (.row (bt e x).cells.toList t false)):=rfl
def HT (e:Env):List (Nat × Operand)->List (Nat × ab)
 | []=>[]
 |(i,x)::l=>(i,bt e x)::HT e l
theorem zpg (l:List (Nat × Operand)):l.map (λ(i,x)=>(i,bt e x))=HT e l:=by
 induction l with
 |nil=>rfl
 |cons a l ih=>rw [lD,ih];rfl
theorem zut:HT e []=[]:=rfl
theorem zrf (i:Nat) (x:Operand) (l:List (Nat × Operand)):HT e ((i,x)::l)=(i,bt e x)::HT e l:=rfl
theorem zBT (t:TypeId) (ps:List (Nat × Operand)):cS P T ov ⟨d,.build t ⟨ps⟩,ty,pos,af,g⟩ e h K=aC (qp T t (HT e ps)) h K:=by
 rw [<- xf,<- zpg];rfl
theorem zpT (t:TypeId) (n:Nat) (ps:List (Nat × Operand)):cS P T ov ⟨d,.buildSlice t n ⟨ps⟩,ty,pos,af,g⟩ e h K=dD (zq T t n (HT e ps) h) K:=by
 rw [<- zpg];rfl
theorem zC5 (t:TypeId) (x:Operand):cS P T ov ⟨d,.load t x,ty,pos,af,g⟩ e h K=aC (iD T t (bt e x) h) h K:=by rw [<- xf];rfl
def iv (r:Option Heap) (K:aF):Prop:=match r with
 |some h=>K undef h
 |none=>False
theorem zwu:iv (some h) K=K undef h:=rfl
theorem zBX (t:TypeId) (x y:Operand):cS P T ov ⟨d,.store t x y,ty,pos,af,g⟩ e h K=iv (iH T t (bt e x) (bt e y) h) K:=by
 show dD ((iH T t (bt e x) (bt e y) h).map λh'=>(undef,h')) K=_
 cases iH T t (bt e x) (bt e y) h <;> rfl
def G3 (v:ab):Option ab:=match v with
 | .pointer (some a)=>some (.pointer (some a))
 | .func (.func f) a b=>some (.func (.func f) a b)
 | .iface t a=>some (.iface t a)
 |_=>none
theorem zyJ (a:Addr):G3 (.pointer (some a))=some (.pointer (some a)):=rfl
theorem zwy (f:FuncId) (a b:Array ab):G3 (.func (.func f) a b)=some (.func (.func f) a b):=rfl
theorem zvc (x:Operand):cS P T ov ⟨d,.nilCheck x,ty,pos,af,g⟩ e h K=aC (G3 (bt e x)) h K:=by
 show dD (Ze (bt e x) h) K=_
 generalize bt e x=v
 cases v <;> try rfl
 .rename_i p;cases p <;> rfl
 .rename_i f a b;cases f <;> rfl
theorem zBR (op:BinOp) (t:TypeId) (x y:Operand) (yt:TypeId):cS P T ov ⟨d,.binOp op t x y yt,ty,pos,af,g⟩ e h K=aC (cz P T op t (bt e x) (bt e y)) h K:=by rw [<- xf];rfl
theorem zva (f:FuncId) (fi ca:List Operand):cS P T ov ⟨d,.makeFunc (.func f) ⟨fi⟩ ⟨ca⟩,ty,pos,af,g⟩ e h K=K (.func (.func f) ⟨AL e fi⟩ ⟨AL e ca⟩) h:=by
 rw [<- Qw,<- Qw]
 show K (.func (.func f) (Array.map (bt e) ⟨fi⟩) (Array.map (bt e) ⟨ca⟩)) h=_
 congr 2 <;> simp
theorem zrP (t:TypeId) (l c:Operand):cS P T ov ⟨d,.makeSlice t l c,ty,pos,af,g⟩ e h K=dD (Qc T t (bt e l) (bt e c) h) K:=rfl
def zh (e:Env):Option Operand->Option ab
 |some x=>some (bt e x)
 |none=>none
theorem zxe (x:Operand):zh e (some x)=some (bt e x):=rfl
theorem zxd:zh e none=none:=rfl
theorem zBW (t:TypeId) (x:Operand) (l hi m:Option Operand):cS P T ov ⟨d,.slice t x l hi m,ty,pos,af,g⟩ e h K=aC (kV T t (bt e x) (zh e l) (zh e hi) (zh e m)) h K:=by
 rw [<- xf];cases l <;> cases hi <;> cases m <;> rfl
theorem zrN (s:TypeId) (x:Operand) (f:Nat):cS P T ov ⟨d,.fieldAddr s x f,ty,pos,af,g⟩ e h K=aC (iS T s (bt e x) f) h K:=by rw [<- xf];rfl
theorem zBU (s:TypeId) (x:Operand) (f:Nat):cS P T ov ⟨d,.field s x f,ty,pos,af,g⟩ e h K=aC (Q3 T s (bt e x) f) h K:=by rw [<- xf];rfl
theorem zrO (t:TypeId) (x i:Operand):cS P T ov ⟨d,.indexAddr t x i,ty,pos,af,g⟩ e h K=aC (kh T t (bt e x) (bt e i)) h K:=by rw [<- xf];rfl
def Hd (v:ab) (i:Nat):Option ab:=match v with | .tuple vs=>vs[i]?|_=>none
theorem zu2 (vs:List ab) (i:Nat):Hd (.tuple ⟨vs⟩) i=vs[i]? := by simp [Hd]
theorem zxZ (t:Operand) (i:Nat):cS P T ov ⟨d,.extract t i,ty,pos,af,g⟩ e h K=aC (Hd (bt e t) i) h K:=by
 rw [<- xf]
 show dD (ZK (bt e t) i h) K=_
 cases bt e t <;> rfl
theorem zC8 (op:UnOp) (t:TypeId) (x:Operand):cS P T ov ⟨d,.unOp op t x,ty,pos,af,g⟩ e h K=dD (i7 P e ⟨d,.unOp op t x,ty,pos,af,g⟩ h) K:=rfl
theorem zpU (s t:TypeId) (x:Operand) (h1:uE T s=false) (h2:uE T t=false):cS P T ov ⟨d,.convert s t x,ty,pos,af,g⟩ e h K=dD (i7 P e ⟨d,.convert s t x,ty,pos,af,g⟩ h) K:=by
 show dD (if uE T s then (TF T s t (bt e x) h).map λr=>(r,h) else if uE T t then (if TJ T s then Ju T t (bt e x) h else none) else i7 P e ⟨d,.convert s t x,ty,pos,af,g⟩ h) K=_
 rw [h1,h2]
 rfl
theorem zBV (t:TypeId) (x i:Operand):cS P T ov ⟨d,.index t x i,ty,pos,af,g⟩ e h K=dD (i7 P e ⟨d,.index t x i,ty,pos,af,g⟩ h) K:=rfl
theorem zE5 (t:TypeId) (x:Operand):cS P T ov ⟨d,.call ⟨.builtin .len,#[x],#[t]⟩,ty,pos,af,g⟩ e h K=aC (bo T t (bt e x) h) h K:=by rw [<- xf];rfl
theorem mr (t u:TypeId) (s x:Operand) (hs:su T t u=true):cS P T ov ⟨d,.call ⟨.builtin .append,#[s,x],#[t,u]⟩,ty,pos,af,g⟩ e h K=dD (gC T t (bt e s) (bt e x) h) K:=by
 show dD (if su T t u then gC T t (bt e s) (bt e x) h else none) K=_
 rw [aE hs]
theorem zC4 (t u:TypeId) (s x:Operand):cS P T ov ⟨d,.call ⟨.builtin .copy,#[s,x],#[t,u]⟩,ty,pos,af,g⟩ e h K=dD (Rn T t (bt e s) (bt e x) h) K:=rfl
theorem zE7 (x y:Operand) (ats:Array TypeId):cS P T ov ⟨d,.call ⟨.builtin .min,#[x,y],ats⟩,ty,pos,af,g⟩ e h K=dD (i7 P e ⟨d,.call ⟨.builtin .min,#[x,y],ats⟩,ty,pos,af,g⟩ h) K:=rfl
theorem zE6 (x y:Operand) (ats:Array TypeId):cS P T ov ⟨d,.call ⟨.builtin .max,#[x,y],ats⟩,ty,pos,af,g⟩ e h K=dD (i7 P e ⟨d,.call ⟨.builtin .max,#[x,y],ats⟩,ty,pos,af,g⟩ h) K:=rfl
end

def EA:List Oper->Nat->Option Tmp
 | [],_=>none
 |o::_,0=>o.dst
 |_::l,n+1=>EA l n
theorem zsd:∀ (l:List Oper) (j:Nat),(l[j]?).bind (·.dst)=EA l j
 | [],j=>by simp [EA]
 |o::l,0=>by simp [EA]
 |o::l,j+1=>by rw [List.getElem?_cons_succ,zsd l j];rfl
theorem ztI (o:Oper) (l:List Oper):EA (o::l) 0=o.dst:=rfl
theorem ztH (o:Oper) (l:List Oper) (n:Nat):EA (o::l) (n+1)=EA l n:=rfl
def zz4 (t:Option Tmp) (e:Env) (b:Bool):Bool:=match t with|some t=>CC (e.get t) b|none=>false
theorem zqR (t:Tmp) (e:Env) (b:Bool):zz4 (some t) e b=CC (e.get t) b:=rfl
theorem zBY (ops:List Oper) (d:Option Tmp) (op:Op) (ty:TypeId) (pos:String) (af:Array Edge) (e:Env) (j:Nat) (b:Bool):nR ⟨ops⟩ ⟨d,op,ty,pos,af,some (j,b)⟩ e=zz4 (EA ops j) e b:=by
 rw [<- zsd]
 simp only [nR,List.getElem?_toArray]
 cases (ops[j]?).bind (·.dst) <;> rfl
theorem zyu:CC (.bool true) true=true:=rfl
theorem zyr:CC (.bool false) false=true:=rfl
theorem zyt:CC (.bool true) false=false:=rfl
theorem zys:CC (.bool false) true=false:=rfl

def J1 (b:Option ba) (o:Nat):Option ab:=match b with
 |some (.row cs _ _)=>cs[o]?
 |_=>none
theorem zvH (cs:List ab) (e:TypeId) (r:Bool) (o:Nat):J1 (some (.row cs e r)) o=cs[o]? := rfl
def Bp (b:Option ba) (o n:Nat):Option ab:=match b with
 |some (.row cs _ _)=>(cut cs o n).map λl=>.agg l.toArray
 |_=>none
theorem zyg (cs:List ab) (e:TypeId) (r:Bool) (o n:Nat):Bp (some (.row cs e r)) o n=(cut cs o n).map λl=>.agg l.toArray:=rfl
theorem nQ {h:Heap} (hg:cN T t=some false):iD T t (.pointer (some ⟨A,o,none⟩)) h=J1 (h.get A) o:=by
 simp only [iD,hg,dM,gD]
 cases h.get A with
 |none=>rfl
 |some b =>
  cases b with
  |dead=>rfl
  |map es c=>rfl
  |loop _ _ _ _ _ _=>rfl
  |row cs e r =>
   simp only [cut,J1,gM,if_false]
   split
   .rename_i hl
    simp [lL]
   .rename_i hl
    rw [CH (by omega)];rfl
theorem D7 {h:Heap} (hg:cN T t=some true) (hs:dg T t=some n):iD T t (.pointer (some ⟨A,o,none⟩)) h=Bp (h.get A) o n:=by
 simp only [iD,hg,hs,dM,gD,if_true]
 cases h.get A with
 |none=>rfl
 |some b=>cases b <;> rfl
theorem zyC {s:au} {h:Heap} (hd:T.desc t=some .string):bo T t (.string s) h=some (.int .i64 s.size):=by simp [bo,hd]
theorem tC {e:TypeId} {a:Option Addr} {c:Nat} {h:Heap} (hd:T.desc t=some (.slice e)):bo T t (.slice a n c) h=some (.int .i64 n):=by simp [bo,hd]
theorem zA4 {e:TypeId} {m:Nat} {ik:IntKind} {i:Int} (hd:T.desc t=some (.array m e)) (hs:dg T e=some k) :
 kh T t (.pointer (some ⟨A,o,none⟩)) (.int ik i)=if 0<=i/\i < m then some (.pointer (some ⟨A,o+i.toNat*k,none⟩)) else none:=by simp [kh,hd,hs]
theorem tz {e:TypeId} {c:Nat} {ik:IntKind} {i:Int} (hd:T.desc t=some (.slice e)) (hs:dg T e=some k) :
 kh T t (.slice (some ⟨A,o,none⟩) n c) (.int ik i)=if 0<=i/\i < n then some (.pointer (some ⟨A,o+i.toNat*k,none⟩)) else none:=by simp [kh,hd,hs]
theorem uQ {e:TypeId} {b:Nat} {z:List ab} (hd:T.desc t=some (.slice e)) (hi:T.info e=some (k,b,z)) (len:Nat) (parts:List (Nat × ab)) (h:Heap) :
 zq T t len parts h=if len*k > 16777216 || len > 16777216 then none else (uJ (λi=>some (i*k,k)) (oT z len) parts).map λcs=>(.slice (some ⟨h.size,0,none⟩) len len,h.push (.row cs e false)):=by
 simp [zq,hd,hi]
theorem zv6 (place:Nat->Option (Nat × Nat)) (cells:List ab):uJ place cells []=some cells:=rfl
theorem zv7 (cells:List ab) (i k:Nat) (v:ab) (rest:List (Nat × ab)) (h1:v.cells.size=k) (h2:i*k+k<=cells.length) :
 uJ (λi=>some (i*k,k)) cells ((i,v)::rest)=uJ (λi=>some (i*k,k)) (aB cells (i*k) v.cells.toList) rest:=by
 simp [uJ,h1,h2]
theorem wrap_i64 {i:Int} (h1 : -9223372036854775808<=i) (h2:i < 9223372036854775808):IntKind.i64.wrap i=i:=by
 show (if (true && decide (i % (2 ^ 64:Int) >= (2 ^ 63:Int)))=true then i % (2 ^ 64:Int) - (2 ^ 64:Int) else i % (2 ^ 64:Int))=i
 by_cases hc:i % (2 ^ 64:Int) >= (2 ^ 63:Int)
 .rw [aE (by simpa using hc)];omega
 .rw [az (by simpa using hc)];omega
theorem zsM {cs:List ab} (hg:cN T t=some false):wm T t cs o=cs[o]? := by simp [wm,hg]

def sy (b:Bool) (h:Heap) (K:aF):Prop:=(b=true->K (.bool true) h)/\(b=false->K (.bool false) h)
theorem zxW (b:Bool) (h:Heap) (K:aF):aC (some (.bool b)) h K=sy b h K:=by
 cases b <;> simp [aC,sy]
theorem zls (h:Heap) (K:aF):sy true h K=K (.bool true) h:=by simp [sy]
theorem SZ (h:Heap) (K:aF):sy false h K=K (.bool false) h:=by simp [sy]
theorem zzK (k:IntKind) (i:Int) (h:Heap) (K:aF):aC (some (.int k i)) h K=K (.int k i) h:=rfl
theorem zzM (s:au) (h:Heap) (K:aF):aC (some (.string s)) h K=K (.string s) h:=rfl
theorem zzL (a:Option Addr) (h:Heap) (K:aF):aC (some (.pointer a)) h K=K (.pointer a) h:=rfl
theorem zu9 (a:Option Addr) (n c:Nat) (h:Heap) (K:aF):aC (some (.slice a n c)) h K=K (.slice a n c) h:=rfl
theorem zzJ (cs:Array ab) (h:Heap) (K:aF):aC (some (.agg cs)) h K=K (.agg cs) h:=rfl
theorem zxX (f:FuncId) (a b:Array ab) (h:Heap) (K:aF):aC (some (.func (.func f) a b)) h K=K (.func (.func f) a b) h:=rfl

theorem cS.one {o:Oper} {e:Env} {h:Heap} {K:aF} (hw:cS P T ov o e h K):∃ v h',K v h'/\∀ K':aF,K' v h'->cS P T ov o e h K':=by
 unfold cS at hw
 split at hw
 .rename_i f args ats aV
  split at hw
  .rename_i g fi ca hf
   obtain ⟨n,v,h',h1,h2⟩:=hw
   refine ⟨v,h',h2,λK' hk=>?_⟩
   unfold cS
   simp only [aV,hf]
   exact ⟨n,v,h',h1,hk⟩
  .rename_i A fi ca hf
   obtain ⟨hc,n,v,h',h1,h2⟩:=hw
   refine ⟨v,h',h2,λK' hk=>?_⟩
   unfold cS
   simp only [aV,hf]
   exact ⟨hc,n,v,h',h1,hk⟩
  .exact hw.elim
 .rename_i r name args ats aV
  split at hw
  .rename_i t x hr
   split at hw
   .rename_i f y hm
    obtain ⟨n,v,h',h1,h2⟩:=hw
    refine ⟨v,h',h2,λK' hk=>?_⟩
    unfold cS
    simp only [aV,hr,hm]
    exact ⟨n,v,h',h1,hk⟩
   .exact hw.elim
  .exact hw.elim
 .rename_i nG Gq
  unfold dD at hw
  split at hw
  .rename_i v h' h1
   refine ⟨v,h',hw,λK' hk=>?_⟩
   unfold cS
   split
   .rename_i f args ats aV;exact (nG f args ats aV).elim
   .rename_i r name args ats aV;exact (Gq r name args ats aV).elim
   .rw [h1];exact hk
  .exact hw.elim
theorem de.one {ops:Array Oper}:∀ (l:List Oper) (e:Env) (h:Heap) (Q:Env->Heap->Prop),de P T ov ops l e h Q->∃ e' h',Q e' h'/\∀ Q':Env->Heap->Prop,Q' e' h'->de P T ov ops l e h Q'
 | [],e,h,Q,hw=>⟨e,h,hw,λ_ hq=>hq⟩
 |o::l,e,h,Q,hw=>by
  simp only [de,rQ] at hw ⊢
  split at hw
  .rename_i gW
   obtain ⟨v,h1,h2,h3⟩:=cS.one hw
   obtain ⟨e',h',h4,h5⟩:=de.one l _ _ _ h2
   exact ⟨e',h',h4,λQ' hq=>by rw [aE gW];exact h3 _ (h5 Q' hq)⟩
  .rename_i gW
   obtain ⟨e',h',h4,h5⟩:=de.one l _ _ _ hw
   exact ⟨e',h',h4,λQ' hq=>by rw [az gW];exact h5 Q' hq⟩
theorem cF.one {ops:Array Oper}:∀ (l:List Oper) (ks:List Nat) (e:Env) (h:Heap) (Q:List Nat->Env->Heap->Prop),cF P T ov ops l ks e h Q->∃ eU e' h',Q eU e' h'/\∀ Q':List Nat->Env->Heap->Prop,Q' eU e' h'->cF P T ov ops l ks e h Q'
 | [],ks,e,h,Q,hw=>⟨ks,e,h,hw,λ_ hq=>hq⟩
 |o::l,ks,e,h,Q,hw=>by
  simp only [cF,rQ] at hw ⊢
  split at hw
  .rename_i gW
   obtain ⟨v,h1,h2,h3⟩:=cS.one hw
   obtain ⟨eU,e',h',h4,h5⟩:=cF.one l _ _ _ _ h2
   exact ⟨eU,e',h',h4,λQ' hq=>by rw [aE gW];exact h3 _ (h5 Q' hq)⟩
  .rename_i gW
   obtain ⟨eU,e',h',h4,h5⟩:=cF.one l _ _ _ _ hw
   exact ⟨eU,e',h',h4,λQ' hq=>by rw [az gW];exact h5 Q' hq⟩
def Ri (P:Program) (T:bI) (ov:Ov) (rd:Option Nat) (c:Code) (Q:Ex->Env->Heap->Prop):Ex->Env->Heap->Prop
 | .normal,e',h'=>W P T ov rd (.loop c) e' h' Q
 | .exit i,e',h'=>Q (.exit i) e' h'
 | .ret,e',h'=>Q .ret e' h'
section
variable {rd:Option Nat}
theorem W.one:∀ (c:Code) (e:Env) (h:Heap) (Q:Ex->Env->Heap->Prop),W P T ov rd c e h Q->∃ x e' h',Q x e' h'/\∀ Q':Ex->Env->Heap->Prop,Q' x e' h'->W P T ov rd c e h Q':=by
 intro c
 induction c with
 |skip=>intro e h Q hw;exact ⟨_,_,_,hw,λ_ hq=>hq⟩
 |region id ops d =>
  intro e h Q hw
  cases d with
  |false =>
   obtain ⟨e',h',h1,h2⟩:=de.one _ _ _ _ hw
   exact ⟨_,e',h',h1,λQ' hq=>h2 _ hq⟩
  |true =>
   obtain ⟨ks,e',h',h1,h2⟩:=cF.one _ _ _ _ _ hw
   exact ⟨_,e',h',h1.2,λQ' hq=>h2 _ ⟨h1.1,hq⟩⟩
 |seq a b jY jZ =>
  intro e h Q hw
  simp only [W] at hw ⊢
  obtain ⟨x,e1,h1,h2,h3⟩:=jY _ _ _ hw
  cases x with
  |normal =>
   obtain ⟨x,e2,h4,h5,h6⟩:=jZ _ _ _ h2
   exact ⟨x,e2,h4,h5,λQ' hq=>h3 _ (h6 Q' hq)⟩
  |exit id=>exact ⟨_,e1,h1,h2,λQ' hq=>h3 _ hq⟩
  |ret=>exact ⟨_,e1,h1,h2,λQ' hq=>h3 _ hq⟩
 |cond c a b jY jZ =>
  intro e h Q hw
  simp only [W,zJ] at hw ⊢
  split at hw
  .rename_i t ht
   cases t with
   |true =>
    obtain ⟨x,e1,h1,h2,h3⟩:=jY _ _ _ (hw.1 rfl)
    exact ⟨x,e1,h1,h2,λQ' hq=>⟨λ_=>h3 Q' hq,λhh=>nomatch hh⟩⟩
   |false =>
    obtain ⟨x,e1,h1,h2,h3⟩:=jZ _ _ _ (hw.2 rfl)
    exact ⟨x,e1,h1,h2,λQ' hq=>⟨λhh=>(nomatch hh),λ_=>h3 Q' hq⟩⟩
  .exact hw.elim
 |block id c ih =>
  intro e h Q hw
  simp only [W] at hw ⊢
  obtain ⟨x,e1,h1,h2,h3⟩:=ih _ _ _ hw
  cases x with
  |normal=>exact ⟨.normal,e1,h1,h2,λQ' hq=>h3 _ hq⟩
  |exit i =>
   by_cases hi:i=id
   .simp only [aE hi] at h2
    exact ⟨.normal,e1,h1,h2,λQ' hq=>h3 _ (by simp only [aE hi];exact hq)⟩
   .simp only [az hi] at h2
    exact ⟨.exit i,e1,h1,h2,λQ' hq=>h3 _ (by simp only [az hi];exact hq)⟩
  |ret=>exact ⟨.ret,e1,h1,h2,λQ' hq=>h3 _ hq⟩
 |loop c ih =>
  intro e h Q hw
  simp only [W] at hw ⊢
  obtain ⟨n,hw⟩:=hw
  induction n generalizing e h with
  |zero=>exact hw.elim
  |succ n YW =>
   simp only [ej] at hw
   obtain ⟨x,e1,h1,h2,h3⟩:=ih _ _ _ hw
   cases x with
   |normal =>
    obtain ⟨x,e2,h4,h5,h6⟩:=YW _ _ h2
    refine ⟨x,e2,h4,h5,λQ' hq=>?_⟩
    obtain ⟨m,hm⟩:=h6 Q' hq
    exact ⟨m+1,by simp only [ej];exact h3 _ hm⟩
   |exit id=>exact ⟨.exit id,e1,h1,h2,λQ' hq=>⟨1,by simp only [ej];exact h3 _ hq⟩⟩
   |ret=>exact ⟨.ret,e1,h1,h2,λQ' hq=>⟨1,by simp only [ej];exact h3 _ hq⟩⟩
 |exit id=>intro e h Q hw;exact ⟨_,_,_,hw,λ_ hq=>hq⟩
 |ret=>intro e h Q hw;exact ⟨_,_,_,hw,λ_ hq=>hq⟩
 |label l=>intro e h Q hw;exact ⟨_,_,_,hw,λ_ hq=>hq⟩
 |rangeFunc g ps a b _ _ =>
  intro e h Q hw
  simp only [W,Cv] at hw
  split at hw
  .rename_i f fi ca hg
   obtain ⟨hc,n,v,h1,h2,h3⟩:=hw
   unfold JZ at h3
   split at h3
   .rename_i x e' h' h4
    refine ⟨x,e',h',h3,λQ' hq=>?_⟩
    simp only [W,Cv,hg]
    exact ⟨hc,n,v,h1,h2,by show JZ (D0 h.size e h1) Q';rw [h4];exact hq⟩
   .exact h3.elim
  .exact hw.elim
 |scope c ih=>intro e h Q hw;exact ih _ _ _ hw
 |goto l=>intro e h Q hw;exact hw.elim
 |refuse s=>intro e h Q hw;exact hw.elim
theorem Qv {c:Code} {e:Env} {h:Heap} {Q:Ex->Env->Heap->Prop} (hw:W P T ov rd c e h (Ri P T ov rd c Q)):W P T ov rd (.loop c) e h Q:=by
 obtain ⟨x,e1,h1,h2,h3⟩:=W.one _ _ _ _ hw
 simp only [W]
 cases x with
 |normal =>
  simp only [Ri,W] at h2
  obtain ⟨n,hn⟩:=h2
  exact ⟨n+1,by simp only [ej];exact h3 _ hn⟩
 |exit id=>exact ⟨1,by simp only [ej];exact h3 _ h2⟩
 |ret=>exact ⟨1,by simp only [ej];exact h3 _ h2⟩
theorem znb (c:Code) (Q:Ex->Env->Heap->Prop) (e:Env) (h:Heap):Ri P T ov rd c Q .normal e h=W P T ov rd (.loop c) e h Q:=rfl
theorem zrm (c:Code) (Q:Ex->Env->Heap->Prop) (i:Nat) (e:Env) (h:Heap):Ri P T ov rd c Q (.exit i) e h=Q (.exit i) e h:=rfl
theorem zuB (c:Code) (Q:Ex->Env->Heap->Prop) (e:Env) (h:Heap):Ri P T ov rd c Q .ret e h=Q .ret e h:=rfl
end
theorem bV {t:Tmp} {K:aF} {e:Env} {h:Heap} (hr:fn.results=#[.tmp t]):ie T fn K .ret e h=K (e.get t) h:=by
 simp [ie,pz,hr,zw]
theorem zsl {t:Tmp} {y:TypeId} {K:aF} {e:Env} {h:Heap} (hr:fn.results=#[.cell t y]):ie T fn K .ret e h=aC (iD T y (e.get t) h) h K:=by
 simp only [ie,pz,hr,zw,aC]
 cases iD T y (e.get t) h <;> simp
theorem rL {t u:Tmp} {K:aF} {e:Env} {h:Heap} (hr:fn.results=#[.tmp t,.tmp u]):ie T fn K .ret e h=K (.tuple #[e.get t,e.get u]) h:=by
 simp [ie,pz,hr,zw]
end
noncomputable def DT:=PLift.up (And.intro @zx5 <| And.intro @znV <| And.intro @zuL <| And.intro @zrz <| And.intro @zx3 <| And.intro @zB8 <| And.intro @zx6 <| And.intro @zwA <| And.intro @zB7 <| And.intro @zvr <| And.intro @zB4 <| And.intro @zB5 <| And.intro @zC9 <| And.intro @zAn <| And.intro @zpR <| And.intro @zu0 <| And.intro @zxO <| And.intro @zmt <| And.intro @zqs <| And.intro @ztp <| And.intro @ztU <| And.intro @zwq <| And.intro @znb <| And.intro @zrm <| And.intro @zuB <| And.intro @zC6 <| And.intro @zzO <| And.intro @zC7 <| And.intro @zuu <| And.intro @zrg <| And.intro @zE4 <| And.intro @zBT <| And.intro @zut <| And.intro @zrf <| And.intro @zpT <| And.intro @zC5 <| And.intro @zBX <| And.intro @zwu <| And.intro @zvc <| And.intro @zyJ <| And.intro @zwy <| And.intro @zBR <| And.intro @zva <| And.intro @zrP <| And.intro @zBW <| And.intro @zxe <| And.intro @zxd <| And.intro @zrN <| And.intro @zBU <| And.intro @zrO <| And.intro @zxZ <| And.intro @zu2 <| And.intro @zC8 <| And.intro @zpU <| And.intro @zBV <| And.intro @zE5 <| And.intro @zC4 <| And.intro @zE7 <| And.intro @zE6 <| And.intro @zx4 <| And.intro @zvu <| And.intro @ztk <| And.intro @r9 <| And.intro @zxc <| And.intro @zxW <| And.intro @zls <| And.intro @SZ <| And.intro @zzK <| And.intro @zzM <| And.intro @zzL <| And.intro @zu9 <| And.intro @zzJ <| And.intro @zxX <| And.intro @ztD <| And.intro @zqB <| And.intro @zx0 <| And.intro @zBY <| And.intro @ztI <| And.intro @ztH <| And.intro @zqR <| And.intro @zyu <| And.intro @zyt <| And.intro @zys <| And.intro @zyr <| And.intro @zAw <| And.intro @zAH <| And.intro @zAy <| And.intro @zAD <| And.intro @zAC <| And.intro @zAB <| And.intro @zAA <| And.intro @zAz <| And.intro @zyz <| And.intro @bc <| And.intro @zqY <| And.intro @iB <| And.intro @zvH <| And.intro @zyg <| @wrap_i64)
theorem syms:type_of% DT.down:=DT.down
theorem zE8 (v:Value):∀ (h:Heap) (K:Value->Heap->Prop),aC (some v) h K=K v h:=λ_ _=>rfl
theorem aoe (s:ByteArray) (h:Heap) (K:Value->Heap->Prop):aC (some (.string s)) h K=K (.string s) h:=rfl
theorem aod (n:Int) (h:Heap) (K:Value->Heap->Prop):aC (some (.int .i64 n)) h K=K (.int .i64 n) h:=rfl
theorem ei (i:Nat) (h:i < 9223372036854775807):IntKind.i64.wrap ((i:Int)+1)=((i+1:Nat):Int):=by rw [wrap_i64 (by omega) (by omega)];omega
end Go.Am
