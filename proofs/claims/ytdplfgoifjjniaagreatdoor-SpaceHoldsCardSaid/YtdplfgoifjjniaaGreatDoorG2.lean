/- More fuel changes nothing. No condition. -/
import Derived.Test.YtdplfgoifjjniaaGreatDoorG1
namespace Go.Am

def Aa (C C':Fn→List Value→Heap→Option (Value × Heap)):Prop:=∀ f args h r,C f args h=some r→C' f args h=some r
def DLe (D D':Array Oper→Env→Heap→Option (Env × Heap)):Prop:=∀ ops e h r,D ops e h=some r→D' ops e h=some r

section
variable {P:Program} {T:bD} {C C':Fn→List Value→Heap→Option (Value × Heap)}

theorem Er (hC:Aa C C') {e:Env} {o:Oper} {h:Heap} {r:Value × Heap} (ak:gM P T C e o h=some r):gM P T C' e o h=some r:=by
 obtain ⟨dst,op,ty,pos,after,guard⟩:=o
 cases op <;> simp only [gM] at ak ⊢ <;> try exact ak
 case call c =>
  obtain ⟨callee,args,eH⟩:=c
  cases callee with
  |value f =>
   simp only at ak ⊢
   split at ak
   ·exact hC _ _ _ _ ak
   ·split at ak
    ·rename_i hc;rw [if_pos hc];exact hC _ _ _ _ ak
    ·cases ak
   ·cases ak
  |invoke rv m =>
   simp only at ak ⊢
   split at ak
   ·simp only [Option.bind_eq_some_iff,Prod.exists] at ak ⊢
    obtain ⟨f,y,hm,ak⟩:=ak
    exact ⟨f,y,hm,hC _ _ _ _ ak⟩
   ·cases ak
  |builtin b=>cases b <;> exact ak

theorem Oq (hC:Aa C C') {ops:Array Oper}:∀ (l:List Oper) (e:Env) (h:Heap) (r:Env × Heap),qu P T C ops l e h=some r→qu P T C' ops l e h=some r
 | [],_,_,_,ak=>ak
 |o::l,e,h,r,ak=>by
  simp only [qu] at ak ⊢
  split at ak
  ·rename_i hw
   rw [if_pos hw]
   split at ak
   ·rename_i v h1 h2
    rw [Er hC h2]
    exact Oq hC l _ _ _ ak
   ·cases ak
  ·rename_i hw
   rw [if_neg hw]
   exact Oq hC l _ _ _ ak

theorem Oz (hC:Aa C C') {ops:Array Oper}:∀ (l:List Oper) (e:Env) (h:Heap) (r:List Nat × Env × Heap),pD P T C ops l e h=some r→pD P T C' ops l e h=some r
 | [],_,_,_,ak=>ak
 |o::l,e,h,r,ak=>by
  simp only [pD] at ak ⊢
  split at ak
  ·rename_i hw
   rw [if_pos hw]
   split at ak
   ·rename_i v h1 h2
    rw [Er hC h2]
    simp only [Option.map_eq_some_iff,Prod.exists] at ak ⊢
    obtain ⟨ks,x1,x2,hr,rfl⟩:=ak
    exact ⟨ks,x1,x2,Oz hC l _ _ _ hr,rfl⟩
   ·cases ak
  ·rename_i hw
   rw [if_neg hw]
   simp only [Option.map_eq_some_iff,Prod.exists] at ak ⊢
   obtain ⟨ks,x1,x2,hr,rfl⟩:=ak
   exact ⟨ks,x1,x2,Oz hC l _ _ _ hr,rfl⟩

theorem v7 (hC:Aa C C'):DLe (mu P T C) (mu P T C'):=by
 intro ops e h r ak
 unfold mu at ak ⊢
 split at ak
 ·rename_i hr
  rw [Oz hC _ _ _ _ hr]
  exact ak
 ·cases ak

theorem Ze {f f':Env→Heap→Option (Ex × Env × Heap)} (hf:∀ e h r,f e h=some r→f' e h=some r):∀ (n m:Nat) (e:Env) (h:Heap) (r:Ex × Env × Heap),n≤m→iter f n e h=some r→iter f' m e h=some r
 |0,_,_,_,_,_,hi=>by simp [iter] at hi
 |n+1,0,_,_,_,hle,_=>by omega
 |n+1,m+1,e,h,r,hle,hi=>by
  simp only [iter] at hi ⊢
  split at hi
  ·rename_i e1 h1 h2
   rw [hf _ _ _ h2]
   exact Ze hf n m _ _ _ (by omega) hi
  ·rename_i aO
   rw [hf _ _ _ hi]
   obtain ⟨x,e1,h1⟩:=r
   cases x with
   |normal=>exact (aO _ _ hi).elim
   |exit id=>rfl
   |ret=>rfl

theorem vZ (hC:Aa C C') {D D':Array Oper→Env→Heap→Option (Env × Heap)} (hD:DLe D D') {n m:Nat} (uC:n≤m) (rd:Option Nat):∀ (c:Code) (e:Env) (h:Heap) (r:Ex × Env × Heap),dx P T C D rd n c e h=some r→dx P T C' D' rd m c e h=some r:=by
 intro c
 induction c with
 |skip=>intro e h r ak;exact ak
 |region id ops d =>
  intro e h r ak
  simp only [dx,Option.map_eq_some_iff,Prod.exists] at ak ⊢
  obtain ⟨e1,h1,hr,rfl⟩:=ak
  refine ⟨e1,h1,?_,rfl⟩
  cases d with
  |true=>simp only [if_true] at hr ⊢;exact hD _ _ _ _ hr
  |false=>simp only [Bool.false_eq_true,if_false] at hr ⊢;exact Oq hC _ _ _ _ hr
 |seq a b gI gJ =>
  intro e h r ak
  simp only [dx] at ak ⊢
  split at ak
  ·rename_i e1 h1 h2
   rw [gI _ _ _ h2]
   exact gJ _ _ _ ak
  ·rename_i aO
   rw [gI _ _ _ ak]
   obtain ⟨x,e1,h1⟩:=r
   cases x with
   |normal=>exact (aO _ _ ak).elim
   |exit id=>rfl
   |ret=>rfl
 |cond c a b gI gJ =>
  intro e h r ak
  simp only [dx] at ak ⊢
  split at ak
  ·exact gI _ _ _ ak
  ·exact gJ _ _ _ ak
  ·cases ak
 |block id c ih =>
  intro e h r ak
  simp only [dx] at ak ⊢
  split at ak
  ·rename_i i e1 h1 h2
   rw [ih _ _ _ h2]
   exact ak
  ·rename_i aO
   rw [ih _ _ _ ak]
   obtain ⟨x,e1,h1⟩:=r
   cases x with
   |normal=>rfl
   |exit id=>exact (aO _ _ _ ak).elim
   |ret=>rfl
 |loop c ih=>intro e h r ak;simp only [dx] at ak ⊢;exact Ze ih n m _ _ _ uC ak
 |exit id=>intro e h r ak;exact ak
 |ret=>intro e h r ak;exact ak
 |label l=>intro e h r ak;exact ak
 |rangeFunc f ps a b _ _ =>
  intro e h r ak
  simp only [dx,GA] at ak ⊢
  split at ak
  ·split at ak
   ·rename_i hc
    rw [if_pos hc]
    split at ak
    ·rename_i hr;rw [hC _ _ _ _ hr];exact ak
    ·cases ak
   ·cases ak
  ·cases ak
 |scope c ih=>intro e h r ak;exact ih _ _ _ ak
 |goto l=>intro e h r ak;simp [dx] at ak
 |refuse s=>intro e h r ak;simp [dx] at ak

theorem zpn {E E':Code→Env→Heap→Option (Ex × Env × Heap)} (hE:∀ c e h r,E c e h=some r→E' c e h=some r) {A:Nat} {args:List Value} {h:Heap} {r:Value × Heap} (ak:BF E A args h=some r):BF E' A args h=some r:=by
 unfold BF at ak ⊢
 split at ak
 ·split at ak
  ·rename_i hc
   simp only [if_pos hc]
   split at ak
   ·rename_i h1
    rw [hE _ _ _ _ h1]
    simp only
    split at ak
    ·split at ak
     ·rename_i h2;rw [hE _ _ _ _ h2];exact ak
     ·rename_i h2;rw [hE _ _ _ _ h2];exact ak
     ·rename_i h2;rw [hE _ _ _ _ h2];exact ak
     ·cases ak
    ·cases ak
   ·cases ak
  ·cases ak
 ·cases ak

theorem Ot {E E':Code→Env→Heap→Option (Ex × Env × Heap)} (hE:∀ c e h r,E c e h=some r→E' c e h=some r):∀ (pre:List Code) (e:Env) (h:Heap) (r:Env × Heap),si E pre e h=some r→si E' pre e h=some r
 | [],_,_,_,ak=>ak
 |c::cs,e,h,r,ak=>by
  simp only [si] at ak ⊢
  split at ak
  ·rename_i hr
   rw [hE _ _ _ _ hr]
   exact Ot hE cs _ _ _ ak
  ·cases ak
theorem ziO {E E':Code→Env→Heap→Option (Ex × Env × Heap)} (hE:∀ c e h r,E c e h=some r→E' c e h=some r) {fn:Func} {g:Value} {e3:Env} {h3:Heap} {r:Value × Heap} (ak:qv T E fn g e3 h3=some r):qv T E' fn g e3 h3=some r:=by
 unfold qv at ak ⊢
 split at ak
 ·simp only [Option.bind_eq_some_iff] at ak ⊢
  obtain ⟨fg,h1,cg,h2,ak⟩:=ak
  refine ⟨fg,h1,cg,h2,?_⟩
  split at ak
  ·rename_i hn
   rw [if_pos hn]
   split at ak
   ·rename_i hr
    rw [hE _ _ _ _ hr]
    exact ak
   ·rename_i hr
    rw [hE _ _ _ _ hr]
    exact ak
   ·cases ak
  ·cases ak
 ·cases ak
theorem zox {C C':Fn→List Value→Heap→Option (Value × Heap)} (hC:Aa C C') {E E':Code→Env→Heap→Option (Ex × Env × Heap)} (hE:∀ c e h r,E c e h=some r→E' c e h=some r) {fn:Func} {c:Code} {e:Env} {h:Heap} {r:Value × Heap} (ak:zU P T E C fn c e h=some r):zU P T E' C' fn c e h=some r:=by
 unfold zU at ak ⊢
 simp only [Option.bind_eq_some_iff,Prod.exists] at ak ⊢
 obtain ⟨pre,m,t,rest,cA,ak⟩:=ak
 refine ⟨pre,m,t,rest,cA,?_⟩
 split at ak
 ·rename_i hn
  rw [if_pos hn]
  simp only [Option.bind_eq_some_iff,Prod.exists] at ak ⊢
  obtain ⟨e1,h1,hp,v1,h2,ho,ak⟩:=ak
  refine ⟨e1,h1,Ot hE _ _ _ _ hp,v1,h2,Er hC ho,?_⟩
  split at ak
  ·rename_i hr
   rw [hE _ _ _ _ hr]
   exact ziO hE ak
  ·rename_i hr
   rw [hE _ _ _ _ hr]
   exact ziO hE ak
  ·cases ak
 ·cases ak
theorem n7 {ov:Ov}:∀ (n m:Nat),n≤m→Aa (call P T ov n) (call P T ov m)
 |0,_,_=>by intro f args h r ak;simp [call] at ak
 |n+1,0,hle=>by omega
 |n+1,m+1,hle=>by
  intro f args h r ak
  have ih:=n7 (ov:=ov) n m (by omega)
  cases f with
  |func f =>
   simp only [call] at ak ⊢
   split at ak
   ·exact ak
   ·simp only [Option.bind_eq_some_iff] at ak ⊢
    obtain ⟨fn,rJ,c,hc,ak⟩:=ak
    refine ⟨fn,rJ,c,hc,?_⟩
    split at ak
    ·rename_i pZ
     rw [if_pos pZ]
     exact zox ih (fun c e h r hr=>vZ ih (v7 ih) (by omega) none c e h r hr) ak
    rename_i pZ
    rw [if_neg pZ]
    split at ak
    ·rename_i hr
     rw [vZ ih (v7 ih) (by omega) none _ _ _ _ hr]
     exact ak
    ·rename_i hr
     rw [vZ ih (v7 ih) (by omega) none _ _ _ _ hr]
     exact ak
    ·cases ak
  |yield A =>
   simp only [call] at ak ⊢
   exact zpn (fun c e h r hr=>vZ ih (v7 ih) (by omega) (some A) c e h r hr) ak
  |_=>simp [call] at ak
end
end Go.Am
namespace Go.Am

structure Ext (h h':Heap):Prop where
 size:h.size≤h'.size
 get:∀ A,A < h.size→h'.get A=h.get A
 low:min h.low h.size≤h'.low

theorem Ext.refl (h:Heap):Ext h h:=⟨Nat.le_refl _,fun _ _=>rfl,Nat.min_le_left _ _⟩
theorem Ext.trans {a b c:Heap} (h:Ext a b) (k:Ext b c):Ext a c :=
 ⟨Nat.le_trans h.size k.size,fun A hA=>(k.get A (Nat.lt_of_lt_of_le hA h.size)).trans (h.get A hA),by have:=h.low;have:=k.low;have:=h.size;omega⟩
theorem Ext.push (h:Heap) (b:bh):Ext h (h.push b):=⟨Nat.le_succ _,fun A hA=>by rw [Heap.bL,if_neg (by omega)],by rw [Heap.dH];omega⟩

section
variable (P:Program) (T:bD) (ov:Ov)

def tj (f:Fn) (args:List Value) (h:Heap) (K:Value→Heap→Prop):Prop:=∃ n v h',call P T ov n f args h=some (v,h')∧K v h'
def Ok (f:FuncId) (args:List Value) (h:Heap) (K:Value→Heap→Prop):Prop:=tj P T ov (.func f) args h K

def bW (r:Option (Value × Heap)) (K:Value→Heap→Prop):Prop:=match r with
 |some (v,h')=>K v h'
 |none=>False
def zZ (v:Value) (A B:Prop):Prop:=match v with
 | .bool t=>(t=true→A)∧(t=false→B)
 |_=>False
def qz (b:Bool) (A B:Prop):Prop:=if b=true then A else B

def ZZ:Fn→List Value→Heap→Option (Value × Heap):=fun _ _ _=>none

def bY (o:Oper) (e:Env) (h:Heap) (K:Value→Heap→Prop):Prop :=
 match o.op with
 | .call ⟨.value f,args,_⟩=>match aZ e f with
  | .func (.func g) fi ca=>Ok P T ov g (fi.toList++args.toList.map (aZ e)++ca.toList) h K
  | .func (.yield A) fi ca=>(fi.isEmpty && ca.isEmpty)=true∧tj P T ov (.yield A) (args.toList.map (aZ e)) h K
  |_=>False
 | .call ⟨.invoke r name,args,_⟩=>match aZ e r with
  | .iface t x=>(match rf T t x name h with
   |some (f,y)=>Ok P T ov f (y::args.toList.map (aZ e)) h K
   |none=>False)
  |_=>False
 |_=>bW (gM P T ZZ e o h) K

def cQ (ops:Array Oper):List Oper→Env→Heap→(Env→Heap→Prop)→Prop
 | [],e,h,Q=>Q e h
 |o::l,e,h,Q=>qz (kP ops o e) (bY P T ov o e h fun v h'=>cQ ops l (put e o.dst v) h' Q) (cQ ops l (put e o.dst undef) h Q)

def cw (ops:Array Oper):List Oper→List Nat→Env→Heap→(List Nat→Env→Heap→Prop)→Prop
 | [],ks,e,h,Q=>Q ks e h
 |o::l,ks,e,h,Q =>
  qz (kP ops o e) (bY P T ov o e { h with low:=h.size } fun v h' =>
   cw ops l (ks++[kg T o e h h']) (put e o.dst v) { h' with low:=min h.low h'.low } Q)
   (cw ops l (ks++[0]) (put e o.dst undef) h Q)

def dj (W:Env→Heap→(Ex→Env→Heap→Prop)→Prop) (Q:Ex→Env→Heap→Prop):Nat→Env→Heap→Prop
 |0,_,_=>False
 |n+1,e,h=>W e h fun
  | .normal,e',h'=>dj W Q n e' h'
  |x,e',h'=>Q x e' h'

def GP (r:Option (Ex × Env × Heap)) (Q:Ex→Env→Heap→Prop):Prop:=match r with
 |some (x,e,h)=>Q x e h
 |none=>False
def EX (rd:Option Nat) (g:Value) (ps:List Tmp) (assign body:Code) (e:Env) (h:Heap) (Q:Ex→Env→Heap→Prop):Prop :=
 match g with
 | .func (.func f) fi ca=>(O6 rd h && Pn T f)=true ∧
  Ok P T ov f (fi.toList++[.func (.yield h.size) #[] #[]]++ca.toList) (h.push (.loop e ps assign body .ready none)) fun _ h2=>GP (Bj h.size e h2) Q
 |_=>False
def W (rd:Option Nat):Code→Env→Heap→(Ex→Env→Heap→Prop)→Prop
 | .skip,e,h,Q=>Q .normal e h
 | .region _ ops false,e,h,Q=>cQ P T ov ops ops.toList e h (Q .normal)
 | .region _ ops true,e,h,Q=>cw P T ov ops ops.toList [] e h fun ks e' h'=>ES ops ks (lJ ops.toList [])=true∧Q .normal e' h'
 | .seq a b,e,h,Q=>W rd a e h fun
  | .normal,e',h'=>W rd b e' h' Q
  |x,e',h'=>Q x e' h'
 | .cond c a b,e,h,Q=>zZ (aZ e c) (W rd a e h Q) (W rd b e h Q)
 | .block id c,e,h,Q=>W rd c e h fun
  | .exit i,e',h'=>if i=id then Q .normal e' h' else Q (.exit i) e' h'
  |x,e',h'=>Q x e' h'
 | .loop c,e,h,Q=>∃ n,dj (W rd c) Q n e h
 | .exit id,e,h,Q=>Q (.exit id) e h
 | .ret,e,h,Q=>Q .ret e h
 | .label _,e,h,Q=>Q .normal e h
 | .scope c,e,h,Q=>W rd c e h Q
 | .rangeFunc g ps assign body,e,h,Q=>EX P T ov rd (aZ e g) ps.toList assign body e h Q
 |_,_,_,_=>False
end

section
variable {P:Program} {T:bD} {ov:Ov} {rd:Option Nat}

theorem tj.mono {f:Fn} {args:List Value} {h:Heap} {K K':Value→Heap→Prop} (hk:tj P T ov f args h K) (hm:∀ v h',K v h'→K' v h'):tj P T ov f args h K':=by
 obtain ⟨n,v,h',h1,h2⟩:=hk
 exact ⟨n,v,h',h1,hm v h' h2⟩
theorem Ok.mono {f:FuncId} {args:List Value} {h:Heap} {K K':Value→Heap→Prop} (hk:Ok P T ov f args h K) (hm:∀ v h',K v h'→K' v h'):Ok P T ov f args h K':=by
 obtain ⟨n,v,h',h1,h2⟩:=hk
 exact ⟨n,v,h',h1,hm v h' h2⟩

theorem zrw (C:Fn→List Value→Heap→Option (Value × Heap)):Aa ZZ C:=by intro f args h r hr;cases hr

theorem bY.sound {o:Oper} {e:Env} {h:Heap} {K:Value→Heap→Prop} (hw:bY P T ov o e h K):∃ n v h',gM P T (call P T ov n) e o h=some (v,h')∧K v h':=by
 unfold bY at hw
 split at hw
 ·rename_i f args eH aL
  split at hw
  ·rename_i g fi ca hf
   obtain ⟨n,v,h',h1,h2⟩:=hw
   refine ⟨n,v,h',?_,h2⟩
   unfold gM
   simp only [aL,hf]
   exact h1
  ·rename_i A fi ca hf
   obtain ⟨hc,n,v,h',h1,h2⟩:=hw
   refine ⟨n,v,h',?_,h2⟩
   unfold gM
   simp only [aL,hf]
   rw [if_pos hc]
   exact h1
  ·exact hw.elim
 ·rename_i r name args eH aL
  split at hw
  ·rename_i t x hr
   split at hw
   ·rename_i f y hm
    obtain ⟨n,v,h',h1,h2⟩:=hw
    refine ⟨n,v,h',?_,h2⟩
    unfold gM
    simp only [aL,hr,hm]
    exact h1
   ·exact hw.elim
  ·exact hw.elim
 ·unfold bW at hw
  split at hw
  ·rename_i v h' h1
   exact ⟨0,v,h',Er (zrw _) h1,hw⟩
  ·exact hw.elim

theorem cQ.sound {ops:Array Oper}:∀ (l:List Oper) (e:Env) (h:Heap) (Q:Env→Heap→Prop),cQ P T ov ops l e h Q→∃ n e' h',qu P T (call P T ov n) ops l e h=some (e',h')∧Q e' h'
 | [],e,h,Q,hw=>⟨0,e,h,rfl,hw⟩
 |o::l,e,h,Q,hw=>by
  simp only [cQ,qz] at hw
  split at hw
  ·rename_i hZ
   obtain ⟨n,v,h1,h2,h3⟩:=bY.sound hw
   obtain ⟨m,e',h',h4,h5⟩:=cQ.sound l _ _ _ h3
   refine ⟨max n m,e',h',?_,h5⟩
   simp only [qu,hZ,if_true]
   rw [Er (n7 n (max n m) (Nat.le_max_left _ _)) h2]
   exact Oq (n7 m (max n m) (Nat.le_max_right _ _)) _ _ _ _ h4
  ·rename_i hZ
   obtain ⟨m,e',h',h4,h5⟩:=cQ.sound l _ _ _ hw
   refine ⟨m,e',h',?_,h5⟩
   simp only [qu]
   rw [if_neg hZ]
   exact h4

theorem cw.sound {ops:Array Oper}:∀ (l:List Oper) (ks:List Nat) (e:Env) (h:Heap) (Q:List Nat→Env→Heap→Prop),cw P T ov ops l ks e h Q →
 ∃ n fF e' h',pD P T (call P T ov n) ops l e h=some (fF,e',h')∧Q (ks++fF) e' h'
 | [],ks,e,h,Q,hw=>⟨0,[],e,h,rfl,by rw [List.append_nil];exact hw⟩
 |o::l,ks,e,h,Q,hw=>by
  simp only [cw,qz] at hw
  split at hw
  ·rename_i hZ
   obtain ⟨n,v,h1,h2,h3⟩:=bY.sound hw
   obtain ⟨m,fF,e',h',h4,h5⟩:=cw.sound l _ _ _ _ h3
   refine ⟨max n m,_::fF,e',h',?_,by rw [List.append_assoc] at h5;exact h5⟩
   simp only [pD,hZ,if_true]
   rw [Er (n7 n (max n m) (Nat.le_max_left _ _)) h2]
   simp only [Oz (n7 m (max n m) (Nat.le_max_right _ _)) _ _ _ _ h4,Option.map_some]
  ·rename_i hZ
   obtain ⟨m,fF,e',h',h4,h5⟩:=cw.sound l _ _ _ _ hw
   refine ⟨m,0::fF,e',h',?_,by rw [List.append_assoc] at h5;exact h5⟩
   simp only [pD]
   rw [if_neg hZ,h4]
   rfl

theorem dj.mono {W:Env→Heap→(Ex→Env→Heap→Prop)→Prop} (hW:∀ e h Q Q',(∀ x e h,Q x e h→Q' x e h)→W e h Q→W e h Q') {Q Q':Ex→Env→Heap→Prop} (hq:∀ x e h,Q x e h→Q' x e h):∀ (n:Nat) (e:Env) (h:Heap),dj W Q n e h→dj W Q' n e h
 |0,_,_,hw=>hw
 |n+1,e,h,hw=>by
  simp only [dj] at hw ⊢
  refine hW _ _ _ _ ?_ hw
  intro x e' h'
  cases x with
  |normal=>exact dj.mono hW hq n e' h'
  |exit id=>exact hq _ _ _
  |ret=>exact hq _ _ _

theorem W.sound:∀ (c:Code) (e:Env) (h:Heap) (Q:Ex→Env→Heap→Prop),W P T ov rd c e h Q→∃ n x e' h',dx P T (call P T ov n) (mu P T (call P T ov n)) rd n c e h=some (x,e',h')∧Q x e' h':=by
 intro c
 have lift:∀ {n m:Nat} (c:Code) (e:Env) (h:Heap) (r:Ex × Env × Heap),n≤m→dx P T (call P T ov n) (mu P T (call P T ov n)) rd n c e h=some r→dx P T (call P T ov m) (mu P T (call P T ov m)) rd m c e h=some r :=
  fun c e h r uC=>vZ (n7 _ _ uC) (v7 (n7 _ _ uC)) uC rd c e h r
 induction c with
 |skip=>intro e h Q hw;exact ⟨0,.normal,e,h,rfl,hw⟩
 |region id ops d =>
  intro e h Q hw
  cases d with
  |false =>
   simp only [W] at hw
   obtain ⟨n,e',h',h1,h2⟩:=cQ.sound _ _ _ _ hw
   exact ⟨n,.normal,e',h',by simp [dx,h1],h2⟩
  |true =>
   simp only [W] at hw
   obtain ⟨n,ks,e',h',h1,h2,h3⟩:=cw.sound _ _ _ _ _ hw
   rw [List.nil_append] at h2
   refine ⟨n,.normal,e',h',?_,h3⟩
   simp [dx,mu,h1,h2]
 |seq a b gI gJ =>
  intro e h Q hw
  simp only [W] at hw
  obtain ⟨n,x,e1,h1,h2,h3⟩:=gI _ _ _ hw
  cases x with
  |normal =>
   obtain ⟨m,x,e2,h4,h5,h6⟩:=gJ _ _ _ h3
   refine ⟨max n m,x,e2,h4,?_,h6⟩
   simp only [dx]
   rw [lift a e h _ (Nat.le_max_left n m) h2]
   exact lift b _ _ _ (Nat.le_max_right n m) h5
  |exit id=>exact ⟨n,.exit id,e1,h1,by simp only [dx];rw [h2],h3⟩
  |ret=>exact ⟨n,.ret,e1,h1,by simp only [dx];rw [h2],h3⟩
 |cond c a b gI gJ =>
  intro e h Q hw
  simp only [W,zZ] at hw
  split at hw
  ·rename_i t ht
   cases t with
   |true =>
    obtain ⟨n,x,e1,h1,h2,h3⟩:=gI _ _ _ (hw.1 rfl)
    exact ⟨n,x,e1,h1,by simp only [dx,ht];exact h2,h3⟩
   |false =>
    obtain ⟨n,x,e1,h1,h2,h3⟩:=gJ _ _ _ (hw.2 rfl)
    exact ⟨n,x,e1,h1,by simp only [dx,ht];exact h2,h3⟩
  ·exact hw.elim
 |block id c ih =>
  intro e h Q hw
  simp only [W] at hw
  obtain ⟨n,x,e1,h1,h2,h3⟩:=ih _ _ _ hw
  cases x with
  |normal=>exact ⟨n,.normal,e1,h1,by simp only [dx];rw [h2],h3⟩
  |exit i =>
   by_cases hi:i=id
   ·exact ⟨n,.normal,e1,h1,by simp only [dx,h2,if_pos hi],by simpa only [if_pos hi] using h3⟩
   ·exact ⟨n,.exit i,e1,h1,by simp only [dx,h2,if_neg hi],by simpa only [if_neg hi] using h3⟩
  |ret=>exact ⟨n,.ret,e1,h1,by simp only [dx];rw [h2],h3⟩
 |loop c ih =>
  intro e h Q hw
  simp only [W] at hw
  obtain ⟨k,hw⟩:=hw
  have key:∀ (k:Nat) (e:Env) (h:Heap),dj (W P T ov rd c) Q k e h→∃ n x e' h',iter (dx P T (call P T ov n) (mu P T (call P T ov n)) rd n c) n e h=some (x,e',h')∧Q x e' h':=by
   intro k
   induction k with
   |zero=>intro e h hw;exact hw.elim
   |succ k lP =>
    intro e h hw
    simp only [dj] at hw
    obtain ⟨n,x,e1,h1,h2,h3⟩:=ih _ _ _ hw
    cases x with
    |normal =>
     obtain ⟨m,x,e2,h4,h5,h6⟩:=lP _ _ h3
     refine ⟨max n m+1,x,e2,h4,?_,h6⟩
     simp only [iter]
     rw [lift c e h _ (show n≤max n m+1 by omega) h2]
     exact Ze (fun e h r hr=>lift c e h r (show m≤max n m+1 by omega) hr) m (max n m) _ _ _ (Nat.le_max_right _ _) h5
    |exit id=>exact ⟨n+1,.exit id,e1,h1,by simp only [iter];rw [lift c e h _ (Nat.le_succ n) h2],h3⟩
    |ret=>exact ⟨n+1,.ret,e1,h1,by simp only [iter];rw [lift c e h _ (Nat.le_succ n) h2],h3⟩
  obtain ⟨n,x,e',h',h1,h2⟩:=key k e h hw
  exact ⟨n,x,e',h',by simp only [dx];exact h1,h2⟩
 |exit id=>intro e h Q hw;exact ⟨0,.exit id,e,h,rfl,hw⟩
 |ret=>intro e h Q hw;exact ⟨0,.ret,e,h,rfl,hw⟩
 |label l=>intro e h Q hw;exact ⟨0,.normal,e,h,rfl,hw⟩
 |rangeFunc g ps a b _ _ =>
  intro e h Q hw
  simp only [W,EX] at hw
  split at hw
  ·rename_i f fi ca hg
   obtain ⟨hc,n,v,h1,h2,h3⟩:=hw
   unfold GP at h3
   split at h3
   ·rename_i x e' h' h4
    refine ⟨n,x,e',h',?_,h3⟩
    simp only [dx,GA,hg]
    rw [if_pos hc,h2]
    exact h4
   ·exact h3.elim
  ·exact hw.elim
 |scope c ih=>intro e h Q hw;exact ih _ _ _ hw
 |goto l=>intro e h Q hw;exact hw.elim
 |refuse s=>intro e h Q hw;exact hw.elim

theorem Ok.enter {f:FuncId} {fn:Func} {c:Code} {args:List Value} {h:Heap} {K:Value→Heap→Prop} (ho:ov f=none) (hf:T.fn f=some fn) (hc:fn.body=some c) (pZ:T.Cu f=false)
 (hw:W P T ov none c (args++List.replicate (fn.ntmps - args.length) undef) h fun x e' h'=>(x=.ret∨x=.normal)∧∃ v,lF T fn e' h'=some v∧K v h'):Ok P T ov f args h K:=by
 obtain ⟨n,x,e',h',h1,hx,v,h2,h3⟩:=W.sound _ _ _ _ hw
 refine ⟨n+1,v,h',?_,h3⟩
 simp only [call,ho,hf,hc,Option.bind_some,h1,pZ,Bool.false_eq_true,if_false]
 rcases hx with rfl|rfl <;> simp [h2]

def jW (P:Program) (T:bD) (ov:Ov):List Code→Env→Heap→(Env→Heap→Prop)→Prop
 | [],e,h,Q=>Q e h
 |c::cs,e,h,Q=>W P T ov none c e h fun x e' h'=>x=.normal∧jW P T ov cs e' h' Q
theorem jW.sound:∀ (pre:List Code) (e:Env) (h:Heap) (Q:Env→Heap→Prop),jW P T ov pre e h Q→∃ n e' h',si (dx P T (call P T ov n) (mu P T (call P T ov n)) none n) pre e h=some (e',h')∧Q e' h'
 | [],e,h,Q,hw=>⟨0,e,h,rfl,hw⟩
 |c::cs,e,h,Q,hw=>by
  simp only [jW] at hw
  obtain ⟨n,x,e1,h1,r1,rfl,hw⟩:=W.sound _ _ _ _ hw
  obtain ⟨k,e2,h2,r2,hq⟩:=jW.sound cs e1 h1 Q hw
  refine ⟨max n k,e2,h2,?_,hq⟩
  simp only [si]
  rw [vZ (n7 _ _ (Nat.le_max_left n k)) (v7 (n7 _ _ (Nat.le_max_left n k))) (Nat.le_max_left n k) none _ _ _ _ r1]
  exact Ot (fun c e h r=>vZ (n7 _ _ (Nat.le_max_right n k)) (v7 (n7 _ _ (Nat.le_max_right n k))) (Nat.le_max_right n k) none c e h r) _ _ _ _ r2
theorem Ok.Cw {f:FuncId} {fn:Func} {c:Code} {args:List Value} {h:Heap} {K:Value→Heap→Prop} {pre:List Code} {m:Oper} {t:Tmp} {rest:Code} (ho:ov f=none) (hf:T.fn f=some fn) (hc:fn.body=some c) (pZ:T.Cu f=true)
 (cA:vy c=some (pre,m,t,rest)) (j5:(pre.all jL && jL rest)=true)
 (hw:jW P T ov pre (args++List.replicate (fn.ntmps - args.length) undef) h fun e1 h1=>bY P T ov m e1 h1 fun v h2=>W P T ov none rest (put e1 m.dst v) h2 fun x e3 h3=>(x=.ret∨x=.normal) ∧
  ∃ g fi ca fg cg,(put e1 m.dst v).get t=.func (.func g) fi ca∧T.fn g=some fg∧fg.body=some cg∧jL cg=true ∧
    W P T ov none cg ((fi.toList++ca.toList)++List.replicate (fg.ntmps - (fi.toList++ca.toList).length) undef) h3 fun y e4 h4=>(y=.ret∨y=.normal)∧∃ vg v,lF T fg e4 h4=some vg∧lF T fn e3 h4=some v∧K v h4):Ok P T ov f args h K:=by
 obtain ⟨n1,e1,h1,r1,hw⟩:=jW.sound _ _ _ _ hw
 obtain ⟨n2,v,h2,r2,hw⟩:=bY.sound hw
 obtain ⟨n3,x,e3,h3,r3,hx,g,fi,ca,fg,cg,q1,q2,q3,q4,hw⟩:=W.sound _ _ _ _ hw
 obtain ⟨n4,y,e4,h4,r4,hy,vg,v5,r5,r6,hk⟩:=W.sound _ _ _ _ hw
 have hm:∃ n,n1≤n∧n2≤n∧n3≤n∧n4≤n:=⟨n1+n2+n3+n4,by omega,by omega,by omega,by omega⟩
 obtain ⟨n,l1,l2,l3,l4⟩:=hm
 have lift:∀ {k:Nat} (c:Code) (e:Env) (h:Heap) (r:Ex × Env × Heap),k≤n→dx P T (call P T ov k) (mu P T (call P T ov k)) none k c e h=some r→dx P T (call P T ov n) (mu P T (call P T ov n)) none n c e h=some r :=
  fun c e h r AH=>vZ (n7 _ _ AH) (v7 (n7 _ _ AH)) AH none c e h r
 refine ⟨n+1,v5,h4,?_,hk⟩
 have r1':=Ot (fun c e h r=>lift c e h r l1) _ _ _ _ r1
 have r2':=Er (n7 _ _ l2) r2
 have r3':=lift _ _ _ _ l3 r3
 have r4':=lift _ _ _ _ l4 r4
 have cp:qv T (dx P T (call P T ov n) (mu P T (call P T ov n)) none n) fn ((put e1 m.dst v).get t) e3 h3=some (v5,h4):=by
  unfold qv
  simp only [q1,q2,q3,q4,Option.bind_some,if_true,r4']
  rcases hy with rfl|rfl <;> simp [r5,r6]
 simp only [call,ho,hf,hc,Option.bind_some,pZ,if_true,zU,cA,j5,r1',r2',r3']
 rcases hx with rfl|rfl <;> exact cp

theorem tj.round {A:Nat} {env:List Value} {ps:List Tmp} {assign body:Code} {st:LoopState} {dt:Option Code} {args:List Value} {h:Heap} {K:Value→Heap→Prop} (hg:h.get A=some (.loop env ps assign body st dt)) (hl:args.length=ps.length)
 (hw:W P T ov (some A) assign (eF env ps args) h fun x e1 h1=>x=.normal∧∃ ni xU H8 H9 ic,h1.get A=some (.loop ni xU H8 H9 .ready ic) ∧
  W P T ov (some A) body e1 (h1.set A (.loop ni xU H8 H9 .busy ic)) fun x _ h2=>bW (we A (match x with | .normal=>none | .ret=>some .ret | .exit id=>some (.exit id)) h2) K):tj P T ov (.yield A) args h K:=by
 obtain ⟨n,x,e1,h1,r1,rfl,ni,xU,H8,H9,ic,r2,hw⟩:=W.sound _ _ _ _ hw
 obtain ⟨m,x,e2,h2,r3,hk⟩:=W.sound _ _ _ _ hw
 unfold bW at hk
 split at hk
 ·rename_i v h' r4
  refine ⟨max n m+1,v,h',?_,hk⟩
  have l1:=vZ (P:=P) (T:=T) (n7 (ov:=ov) n (max n m) (Nat.le_max_left _ _)) (v7 (n7 n (max n m) (Nat.le_max_left _ _))) (Nat.le_max_left n m) (some A) _ _ _ _ r1
  have l2:=vZ (P:=P) (T:=T) (n7 (ov:=ov) m (max n m) (Nat.le_max_right _ _)) (v7 (n7 m (max n m) (Nat.le_max_right _ _))) (Nat.le_max_right n m) (some A) _ _ _ _ r3
  simp only [call,BF,hg,hl,if_true,l1,r2,l2]
  cases x <;> exact r4
 ·exact hk.elim

theorem Ok.over {f:FuncId} {g:List Value→Heap→Option (Value × Heap)} {args:List Value} {h h':Heap} {v:Value} {K:Value→Heap→Prop} (ho:ov f=some g) (hg:g args h=some (v,h')) (hk:K v h'):Ok P T ov f args h K :=
 ⟨1,v,h',by simp [call,ho,hg],hk⟩

theorem W.loop {c:Code} {e:Env} {h:Heap} {Q:Ex→Env→Heap→Prop} (I:Env→Heap→Prop) (μ:Env→Heap→Nat) (h0:I e h)
 (round:∀ e h,I e h→W P T ov rd c e h fun x e' h'=>match x with | .normal=>I e' h'∧μ e' h' < μ e h|x=>Q x e' h') (hm:∀ e h Q Q',(∀ x e h,Q x e h→Q' x e h)→W P T ov rd c e h Q→W P T ov rd c e h Q'):W P T ov rd (.loop c) e h Q:=by
 have key:∀ (n:Nat) (e:Env) (h:Heap),μ e h < n→I e h→dj (W P T ov rd c) Q n e h:=by
  intro n
  induction n with
  |zero=>intro e h hn;omega
  |succ n ih =>
   intro e h hn hI
   simp only [dj]
   refine hm _ _ _ _ ?_ (round e h hI)
   intro x e' h'
   cases x with
   |normal=>exact fun hh=>ih e' h' (by omega) hh.1
   |exit i=>exact fun hh=>hh
   |ret=>exact fun hh=>hh
 exact ⟨μ e h+1,key _ e h (Nat.lt_succ_self _) h0⟩

theorem bY.mono {o:Oper} {e:Env} {h:Heap} {K K':Value→Heap→Prop} (hk:∀ v h',K v h'→K' v h') (hw:bY P T ov o e h K):bY P T ov o e h K':=by
 unfold bY at hw ⊢
 split at hw
 ·split at hw
  ·exact hw.mono hk
  ·exact ⟨hw.1,hw.2.mono hk⟩
  ·exact hw.elim
 ·split at hw
  ·split at hw
   ·exact hw.mono hk
   ·exact hw.elim
  ·exact hw.elim
 ·unfold bW at hw ⊢
  split at hw
  ·rename_i v h' h1;exact hk v h' hw
  ·exact hw.elim
theorem cQ.mono {ops:Array Oper}:∀ (l:List Oper) (e:Env) (h:Heap) (Q Q':Env→Heap→Prop),(∀ e h,Q e h→Q' e h)→cQ P T ov ops l e h Q→cQ P T ov ops l e h Q'
 | [],_,_,_,_,hq,hw=>hq _ _ hw
 |o::l,e,h,Q,Q',hq,hw=>by
  simp only [cQ,qz] at hw ⊢
  split at hw
  ·rename_i hZ;rw [if_pos hZ];exact bY.mono (fun v h'=>cQ.mono l _ _ _ _ hq) hw
  ·rename_i hZ;rw [if_neg hZ];exact cQ.mono l _ _ _ _ hq hw
theorem cw.mono {ops:Array Oper}:∀ (l:List Oper) (ks:List Nat) (e:Env) (h:Heap) (Q Q':List Nat→Env→Heap→Prop),(∀ ks e h,Q ks e h→Q' ks e h)→cw P T ov ops l ks e h Q→cw P T ov ops l ks e h Q'
 | [],_,_,_,_,_,hq,hw=>hq _ _ _ hw
 |o::l,ks,e,h,Q,Q',hq,hw=>by
  simp only [cw,qz] at hw ⊢
  split at hw
  ·rename_i hZ;rw [if_pos hZ];exact bY.mono (fun v h'=>cw.mono l _ _ _ _ _ hq) hw
  ·rename_i hZ;rw [if_neg hZ];exact cw.mono l _ _ _ _ _ hq hw
theorem W.mono:∀ (c:Code) (e:Env) (h:Heap) (Q Q':Ex→Env→Heap→Prop),(∀ x e h,Q x e h→Q' x e h)→W P T ov rd c e h Q→W P T ov rd c e h Q':=by
 intro c
 induction c with
 |skip=>intro e h Q Q' hq hw;exact hq _ _ _ hw
 |region id ops d =>
  intro e h Q Q' hq hw
  cases d with
  |false=>exact cQ.mono _ _ _ _ _ (hq _) hw
  |true=>exact cw.mono _ _ _ _ _ _ (fun ks e h hh=>⟨hh.1,hq _ _ _ hh.2⟩) hw
 |seq a b gI gJ =>
  intro e h Q Q' hq hw
  simp only [W] at hw ⊢
  refine gI _ _ _ _ ?_ hw
  intro x e' h'
  cases x with
  |normal=>exact gJ _ _ _ _ hq
  |exit id=>exact hq _ _ _
  |ret=>exact hq _ _ _
 |cond c a b gI gJ =>
  intro e h Q Q' hq hw
  simp only [W,zZ] at hw ⊢
  split at hw
  ·exact ⟨fun ht=>gI _ _ _ _ hq (hw.1 ht),fun ht=>gJ _ _ _ _ hq (hw.2 ht)⟩
  ·exact hw.elim
 |block id c ih =>
  intro e h Q Q' hq hw
  simp only [W] at hw ⊢
  refine ih _ _ _ _ ?_ hw
  intro x e' h'
  cases x with
  |normal=>exact hq _ _ _
  |exit i =>
   intro hh
   by_cases hi:i=id
   ·simp only [if_pos hi] at hh ⊢;exact hq _ _ _ hh
   ·simp only [if_neg hi] at hh ⊢;exact hq _ _ _ hh
  |ret=>exact hq _ _ _
 |loop c ih =>
  intro e h Q Q' hq hw
  simp only [W] at hw ⊢
  obtain ⟨n,hw⟩:=hw
  exact ⟨n,dj.mono ih hq n e h hw⟩
 |exit id=>intro e h Q Q' hq hw;exact hq _ _ _ hw
 |ret=>intro e h Q Q' hq hw;exact hq _ _ _ hw
 |label l=>intro e h Q Q' hq hw;exact hq _ _ _ hw
 |rangeFunc g ps a b _ _ =>
  intro e h Q Q' hq hw
  simp only [W,EX] at hw ⊢
  split at hw
  ·refine ⟨hw.1,hw.2.mono fun v h2 hh=>?_⟩
   unfold GP at hh ⊢
   split at hh
   ·exact hq _ _ _ hh
   ·exact hh.elim
  ·exact hw.elim
 |scope c ih=>intro e h Q Q' hq hw;exact ih _ _ _ _ hq hw
 |goto l=>intro e h Q Q' hq hw;exact hw.elim
 |refuse s=>intro e h Q Q' hq hw;exact hw.elim

theorem jW.mono:∀ (pre:List Code) (e:Env) (h:Heap) (Q Q':Env→Heap→Prop),(∀ e h,Q e h→Q' e h)→jW P T ov pre e h Q→jW P T ov pre e h Q'
 | [],e,h,_,_,hq,hw=>hq e h hw
 |c::cs,_,_,Q,Q',hq,hw=>W.mono c _ _ _ _ (fun _ e' h' ⟨h1,h2⟩=>⟨h1,jW.mono cs e' h' Q Q' hq h2⟩) hw
theorem W.Ko {c:Code} {e:Env} {h:Heap} {Q:Ex→Env→Heap→Prop} (I:Env→Heap→Prop) (μ:Env→Heap→Nat) (h0:I e h)
 (round:∀ e h,I e h→W P T ov rd c e h fun x e' h'=>match x with | .normal=>I e' h'∧μ e' h' < μ e h|x=>Q x e' h'):W P T ov rd (.loop c) e h Q:=W.loop I μ h0 round (W.mono c)
/-! ### For simp: what is left to do is data, so that simp goes by the head -/
structure Hid (p:Prop):Prop where
 out:p
theorem zBh (p:Prop):Hid p=p:=propext ⟨Hid.out,Hid.mk⟩
section
variable (P:Program) (T:bD) (ov:Ov) (rd:Option Nat)
def th (ops:Array Oper) (l:List Oper) (d:Option Tmp) (Q:Env→Heap→Prop) (e:Env):Value→Heap→Prop:=fun v h'=>Hid (cQ P T ov ops l (put e d v) h' Q)
def RH (ops:Array Oper) (o:Oper) (l:List Oper) (e:Env) (h:Heap) (Q:Env→Heap→Prop) (b:Bool):Prop:=if b=true then bY P T ov o e h (th P T ov ops l o.dst Q e) else cQ P T ov ops l (put e o.dst undef) h Q
def EU (a b:Code) (e:Env) (h:Heap) (Q:Ex→Env→Heap→Prop) (v:Value):Prop:=zZ v (W P T ov rd a e h Q) (W P T ov rd b e h Q)
def Fb (b:Code) (Q:Ex→Env→Heap→Prop):Ex→Env→Heap→Prop
 | .normal,e',h'=>W P T ov rd b e' h' Q
 | .exit i,e',h'=>Q (.exit i) e' h'
 | .ret,e',h'=>Q .ret e' h'
def zS (id:Nat) (Q:Ex→Env→Heap→Prop):Ex→Env→Heap→Prop
 | .normal,e',h'=>Q .normal e' h'
 | .exit i,e',h'=>if i=id then Q .normal e' h' else Q (.exit i) e' h'
 | .ret,e',h'=>Q .ret e' h'
def PH (Q:Ex→Env→Heap→Prop):Env→Heap→Prop:=Q .normal
def aA (fn:Func) (K:Value→Heap→Prop):Ex→Env→Heap→Prop:=fun x e' h'=>(x=.ret∨x=.normal)∧∃ v,lF T fn e' h'=some v∧K v h'
def wy (e:Env):List Operand→List Value
 | []=>[]
 |x::xs=>aZ e x::wy e xs
def Pp (o:Oper):Bool:=match o.op with
 | .call ⟨.value _,_,_⟩=>true
 | .call ⟨.invoke _ _,_,_⟩=>true
 |_=>false
def so (args:List Value) (h:Heap) (K:Value→Heap→Prop) (v:Value):Prop:=match v with
 | .func (.func g) fi ca=>Ok P T ov g (fi.toList++args++ca.toList) h K
 | .func (.yield A) fi ca=>(fi.isEmpty && ca.isEmpty)=true∧tj P T ov (.yield A) args h K
 |_=>False
end

theorem Mr (e:Env):∀ xs:List Operand,xs.map (aZ e)=wy e xs
 | []=>rfl
 |x::xs=>by rw [List.map_cons,wy,Mr e xs]
theorem zsO (e:Env):wy e []=[]:=rfl
theorem zqN (e:Env) (x:Operand) (xs:List Operand):wy e (x::xs)=aZ e x::wy e xs:=rfl
theorem zuq (v:Value) (h:Heap) (K:Value→Heap→Prop):bW (some (v,h)) K=K v h:=rfl
theorem zwc (ops:Array Oper) (e:Env) (h:Heap) (Q:Env→Heap→Prop):cQ P T ov ops [] e h Q=Q e h:=rfl
theorem zl5 (ops:Array Oper) (o:Oper) (l:List Oper) (e:Env) (h:Heap) (Q:Env→Heap→Prop):cQ P T ov ops (o::l) e h Q=RH P T ov ops o l e h Q (kP ops o e):=by
 simp only [cQ,qz,RH]
 split
 ·exact propext ⟨bY.mono fun _ _ hw=>⟨hw⟩,bY.mono fun _ _ hw=>hw.out⟩
 ·rfl
theorem zsi (ops:Array Oper) (o:Oper) (l:List Oper) (e:Env) (h:Heap) (Q:Env→Heap→Prop):RH P T ov ops o l e h Q true=bY P T ov o e h (th P T ov ops l o.dst Q e):=rfl
theorem zpA (ops:Array Oper) (o:Oper) (l:List Oper) (e:Env) (h:Heap) (Q:Env→Heap→Prop):RH P T ov ops o l e h Q false=cQ P T ov ops l (put e o.dst undef) h Q:=rfl
theorem zv9 (ops:Array Oper) (l:List Oper) (d:Option Tmp) (Q:Env→Heap→Prop) (e:Env) (v:Value) (h:Heap):th P T ov ops l d Q e v h=cQ P T ov ops l (put e d v) h Q:=zBh _
theorem zwb {o:Oper} {e:Env} {h:Heap} {K:Value→Heap→Prop} (hc:Pp o=false):bY P T ov o e h K=bW (gM P T ZZ e o h) K:=by
 unfold bY
 split
 ·rename_i aL;simp [Pp,aL] at hc
 ·rename_i aL;simp [Pp,aL] at hc
 ·rfl
theorem zwa (d:Option Tmp) (f:Operand) (args:List Operand) (eH:Array TypeId) (ty:TypeId) (pos:String) (af:Array Edge) (g:Option (Nat × Bool)) (e:Env) (h:Heap) (K:Value→Heap→Prop) :
 bY P T ov ⟨d,.call ⟨.value f,⟨args⟩,eH⟩,ty,pos,af,g⟩ e h K=so P T ov (wy e args) h K (aZ e f):=by
 rw [← Mr];rfl
theorem pA (g:FuncId) (args:List Value) (h:Heap) (K:Value→Heap→Prop):so P T ov args h K (.func (.func g) #[] #[])=Ok P T ov g args h K:=by
 simp [so]
theorem vW (g:FuncId) (fi ca:Array Value) (args:List Value) (h:Heap) (K:Value→Heap→Prop):so P T ov args h K (.func (.func g) fi ca)=Ok P T ov g (fi.toList++args++ca.toList) h K:=rfl
theorem zDz (e:Env) (h:Heap) (Q:Ex→Env→Heap→Prop):W P T ov rd .skip e h Q=Q .normal e h:=rfl
theorem zwd (id:Nat) (ops:List Oper) (e:Env) (h:Heap) (Q:Ex→Env→Heap→Prop):W P T ov rd (.region id ⟨ops⟩ false) e h Q=cQ P T ov ⟨ops⟩ ops e h (PH Q):=rfl
theorem ztZ (Q:Ex→Env→Heap→Prop) (e:Env) (h:Heap):PH Q e h=Q .normal e h:=rfl
theorem zDy (a b:Code) (e:Env) (h:Heap) (Q:Ex→Env→Heap→Prop):W P T ov rd (.seq a b) e h Q=W P T ov rd a e h (Fb P T ov rd b Q):=by
 simp only [W]
 congr 1
 funext x e' h'
 cases x <;> rfl
theorem zsK (id:Nat) (c:Code) (e:Env) (h:Heap) (Q:Ex→Env→Heap→Prop):W P T ov rd (.block id c) e h Q=W P T ov rd c e h (zS id Q):=by
 simp only [W]
 congr 1
 funext x e' h'
 cases x <;> rfl
theorem zDv (c:Operand) (a b:Code) (e:Env) (h:Heap) (Q:Ex→Env→Heap→Prop):W P T ov rd (.cond c a b) e h Q=EU P T ov rd a b e h Q (aZ e c):=rfl
theorem zq5 (a b:Code) (e:Env) (h:Heap) (Q:Ex→Env→Heap→Prop):EU P T ov rd a b e h Q (.bool true)=W P T ov rd a e h Q:=by simp [EU,zZ]
theorem zou (a b:Code) (e:Env) (h:Heap) (Q:Ex→Env→Heap→Prop):EU P T ov rd a b e h Q (.bool false)=W P T ov rd b e h Q:=by simp [EU,zZ]
theorem zDw (id:Nat) (e:Env) (h:Heap) (Q:Ex→Env→Heap→Prop):W P T ov rd (.exit id) e h Q=Q (.exit id) e h:=rfl
theorem zEJ (e:Env) (h:Heap) (Q:Ex→Env→Heap→Prop):W P T ov rd .ret e h Q=Q .ret e h:=rfl
theorem zBw (l:Nat) (e:Env) (h:Heap) (Q:Ex→Env→Heap→Prop):W P T ov rd (.label l) e h Q=Q .normal e h:=rfl
theorem zn6 (b:Code) (Q:Ex→Env→Heap→Prop) (e:Env) (h:Heap):Fb P T ov rd b Q .normal e h=W P T ov rd b e h Q:=rfl
theorem zsq (b:Code) (Q:Ex→Env→Heap→Prop) (i:Nat) (e:Env) (h:Heap):Fb P T ov rd b Q (.exit i) e h=Q (.exit i) e h:=rfl
theorem zvS (b:Code) (Q:Ex→Env→Heap→Prop) (e:Env) (h:Heap):Fb P T ov rd b Q .ret e h=Q .ret e h:=rfl
theorem zk7 (id:Nat) (Q:Ex→Env→Heap→Prop) (e:Env) (h:Heap):zS id Q .normal e h=Q .normal e h:=rfl
theorem zol (id:Nat) (Q:Ex→Env→Heap→Prop) (e:Env) (h:Heap):zS id Q (.exit id) e h=Q .normal e h:=by simp [zS]
theorem zqS (id:Nat) (Q:Ex→Env→Heap→Prop) (e:Env) (h:Heap):zS id Q .ret e h=Q .ret e h:=rfl
theorem Ok.aD {f:FuncId} {fn:Func} {c:Code} {args:List Value} {h:Heap} {K:Value→Heap→Prop} (ho:ov f=none) (hf:T.fn f=some fn) (hc:fn.body=some c) (pZ:T.Cu f=false) {m:Nat} (hm:fn.ntmps - args.length=m)
 (hw:W P T ov none c (args++List.replicate m undef) h (aA T fn K)):Ok P T ov f args h K:=Ok.enter ho hf hc pZ (by rw [hm];exact hw)
def PG (I:Env→Heap→Prop) (μ:Env→Heap→Nat) (e:Env) (h:Heap) (Q:Ex→Env→Heap→Prop):Ex→Env→Heap→Prop
 | .normal,e',h'=>I e' h'∧μ e' h' < μ e h
 | .exit i,e',h'=>Q (.exit i) e' h'
 | .ret,e',h'=>Q .ret e' h'
theorem zrs (I:Env→Heap→Prop) (μ:Env→Heap→Nat) (e:Env) (h:Heap) (Q:Ex→Env→Heap→Prop) (i:Nat) (e':Env) (h':Heap):PG I μ e h Q (.exit i) e' h'=Q (.exit i) e' h':=rfl
theorem ztP (I:Env→Heap→Prop) (μ:Env→Heap→Nat) (e:Env) (h:Heap) (Q:Ex→Env→Heap→Prop) (e':Env) (h':Heap):PG I μ e h Q .ret e' h'=Q .ret e' h':=rfl
theorem zm9 {I:Env→Heap→Prop} {μ:Env→Heap→Nat} {e:Env} {h:Heap} {Q:Ex→Env→Heap→Prop} {e':Env} {h':Heap} (h1:I e' h') (h2:μ e' h' < μ e h):PG I μ e h Q .normal e' h':=⟨h1,h2⟩
theorem zDx {c:Code} {e:Env} {h:Heap} {Q:Ex→Env→Heap→Prop} (I:Env→Heap→Prop) (μ:Env→Heap→Nat) (h0:I e h) (round:∀ e h,I e h→W P T ov rd c e h (PG I μ e h Q)):W P T ov rd (.loop c) e h Q :=
 W.Ko I μ h0 fun e h hI=>W.mono c e h _ _ (fun x e' h' hh=>by cases x <;> exact hh) (round e h hI)

section
variable (C:Fn→List Value→Heap→Option (Value × Heap)) (d:Option Tmp) (ty:TypeId) (pos:String) (af:Array Edge) (g:Option (Nat × Bool)) (e:Env) (h:Heap)
def zH6 (c a b:Value) (h:Heap):Option (Value × Heap):=match c with | .bool t=>some (if t then a else b,h)|_=>none
def Xl (v:Value) (h:Heap):Option (Value × Heap):=match v with
 | .pointer (some a)=>some (.pointer (some a),h)
 | .func (.func f) a b=>some (.func (.func f) a b,h)
 | .iface t a=>some (.iface t a,h)
 |_=>none
def X0 (v:Value) (i:Nat) (h:Heap):Option (Value × Heap):=match v with | .tuple vs=>(vs[i]?).map fun r=>(r,h)|_=>none
end
theorem zv6 (ops:Array Oper) (d:Option Tmp) (op:Op) (ty:TypeId) (pos:String) (af:Array Edge) (e:Env):kP ops ⟨d,op,ty,pos,af,none⟩ e=true:=rfl
def zR (v:Value) (b:Bool):Bool:=match v with | .bool c=>c == b|_=>false

theorem Bu {op:BinOp} {t:TypeId} {k:IntKind} {a b:Int} {v:Value} (hv:pE op (.int k a) (.int k b)=some v):bU P T op t (.int k a) (.int k b)=some v:=by simp [bU,hv]
section
variable (t:TypeId) (k:IntKind) (a b:Int)
theorem zBI:bU P T .add t (.int k a) (.int k b)=some (.int k (k.wrap (a+b))):=Bu (by simp [pE])
theorem zBU:bU P T .sub t (.int k a) (.int k b)=some (.int k (k.wrap (a - b))):=Bu (by simp [pE])
theorem zBK:bU P T .eql t (.int k a) (.int k b)=some (.bool (a == b)):=Bu (by simp [pE])
theorem zBP:bU P T .neq t (.int k a) (.int k b)=some (.bool (a != b)):=Bu (by simp [pE])
theorem zBO:bU P T .lss t (.int k a) (.int k b)=some (.bool (a < b)):=Bu (by simp [pE])
theorem zBN:bU P T .leq t (.int k a) (.int k b)=some (.bool (a≤b)):=Bu (by simp [pE])
theorem zBM:bU P T .gtr t (.int k a) (.int k b)=some (.bool (a > b)):=Bu (by simp [pE])
theorem zBL:bU P T .geq t (.int k a) (.int k b)=some (.bool (a ≥ b)):=Bu (by simp [pE])
end

end
end Go.Am
