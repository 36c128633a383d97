/- More fuel changes nothing. No condition. -/
import Derived.Test.YtkgojconmeeegaaGreatDoorG1
namespace Go.Am

def Dj (C C':Fn→List Value→Heap→Option (Value × Heap)):Prop:=∀ f args h r,C f args h=some r→C' f args h=some r
def Ve (D D':Array Oper→Env→Heap→Option (Env × Heap)):Prop:=∀ ops e h r,D ops e h=some r→D' ops e h=some r

section
variable {P:Program} {T:bK} {C C':Fn→List Value→Heap→Option (Value × Heap)}

theorem Ht (hC:Dj C C') {e:Env} {o:Oper} {h:Heap} {r:Value × Heap} (ak:iQ P T C e o h=some r):iQ P T C' e o h=some r:=by
 obtain ⟨dst,op,ty,pos,after,guard⟩:=o
 cases op <;> simp only [iQ] at ak ⊢ <;> try exact ak
 case call c =>
  obtain ⟨callee,args,fb⟩:=c
  cases callee with
  |value f =>
   simp only at ak ⊢
   split at ak
   ·exact hC _ _ _ _ ak
   ·split at ak
    ·rename_i hc;rw [if_pos hc];exact hC _ _ _ _ ak
    ·cases ak
   ·cases ak
  |invoke rv m =>
   simp only at ak ⊢
   split at ak
   ·simp only [Option.bind_eq_some_iff,Prod.exists] at ak ⊢
    obtain ⟨f,y,hm,ak⟩:=ak
    exact ⟨f,y,hm,hC _ _ _ _ ak⟩
   ·cases ak
  |builtin b=>cases b <;> exact ak

theorem WQ (hC:Dj C C') {ops:Array Oper}:∀ (l:List Oper) (e:Env) (h:Heap) (r:Env × Heap),sg P T C ops l e h=some r→sg P T C' ops l e h=some r
 | [],_,_,_,ak=>ak
 |o::l,e,h,r,ak=>by
  simp only [sg] at ak ⊢
  split at ak
  ·rename_i hw
   rw [if_pos hw]
   split at ak
   ·rename_i v h1 h2
    rw [Ht hC h2]
    exact WQ hC l _ _ _ ak
   ·cases ak
  ·rename_i hw
   rw [if_neg hw]
   exact WQ hC l _ _ _ ak

theorem WD (hC:Dj C C') {ops:Array Oper}:∀ (l:List Oper) (e:Env) (h:Heap) (r:List Nat × Env × Heap),rh P T C ops l e h=some r→rh P T C' ops l e h=some r
 | [],_,_,_,ak=>ak
 |o::l,e,h,r,ak=>by
  simp only [rh] at ak ⊢
  split at ak
  ·rename_i hw
   rw [if_pos hw]
   split at ak
   ·rename_i v h1 h2
    rw [Ht hC h2]
    simp only [Option.map_eq_some_iff,Prod.exists] at ak ⊢
    obtain ⟨ks,x1,x2,hr,rfl⟩:=ak
    exact ⟨ks,x1,x2,WD hC l _ _ _ hr,rfl⟩
   ·cases ak
  ·rename_i hw
   rw [if_neg hw]
   simp only [Option.map_eq_some_iff,Prod.exists] at ak ⊢
   obtain ⟨ks,x1,x2,hr,rfl⟩:=ak
   exact ⟨ks,x1,x2,WD hC l _ _ _ hr,rfl⟩

theorem yW (hC:Dj C C'):Ve (nU P T C) (nU P T C'):=by
 intro ops e h r ak
 unfold nU at ak ⊢
 split at ak
 ·rename_i hr
  rw [WD hC _ _ _ _ hr]
  exact ak
 ·cases ak

theorem T6 {f f':Env→Heap→Option (Ex × Env × Heap)} (hf:∀ e h r,f e h=some r→f' e h=some r):∀ (n m:Nat) (e:Env) (h:Heap) (r:Ex × Env × Heap),n≤m→iter f n e h=some r→iter f' m e h=some r
 |0,_,_,_,_,_,hi=>by simp [iter] at hi
 |n+1,0,_,_,_,hle,_=>by omega
 |n+1,m+1,e,h,r,hle,hi=>by
  simp only [iter] at hi ⊢
  split at hi
  ·rename_i e1 h1 h2
   rw [hf _ _ _ h2]
   exact T6 hf n m _ _ _ (by omega) hi
  ·rename_i aP
   rw [hf _ _ _ hi]
   obtain ⟨x,e1,h1⟩:=r
   cases x with
   |normal=>exact (aP _ _ hi).elim
   |exit id=>rfl
   |ret=>rfl

theorem yV (hC:Dj C C') {D D':Array Oper→Env→Heap→Option (Env × Heap)} (hD:Ve D D') {n m:Nat} (w8:n≤m) (rd:Option Nat):∀ (c:Code) (e:Env) (h:Heap) (r:Ex × Env × Heap),dQ P T C D rd n c e h=some r→dQ P T C' D' rd m c e h=some r:=by
 intro c
 induction c with
 |skip=>intro e h r ak;exact ak
 |region id ops d =>
  intro e h r ak
  simp only [dQ,Option.map_eq_some_iff,Prod.exists] at ak ⊢
  obtain ⟨e1,h1,hr,rfl⟩:=ak
  refine ⟨e1,h1,?_,rfl⟩
  cases d with
  |true=>simp only [if_true] at hr ⊢;exact hD _ _ _ _ hr
  |false=>simp only [Bool.false_eq_true,if_false] at hr ⊢;exact WQ hC _ _ _ _ hr
 |seq a b iN iO =>
  intro e h r ak
  simp only [dQ] at ak ⊢
  split at ak
  ·rename_i e1 h1 h2
   rw [iN _ _ _ h2]
   exact iO _ _ _ ak
  ·rename_i aP
   rw [iN _ _ _ ak]
   obtain ⟨x,e1,h1⟩:=r
   cases x with
   |normal=>exact (aP _ _ ak).elim
   |exit id=>rfl
   |ret=>rfl
 |cond c a b iN iO =>
  intro e h r ak
  simp only [dQ] at ak ⊢
  split at ak
  ·exact iN _ _ _ ak
  ·exact iO _ _ _ ak
  ·cases ak
 |block id c ih =>
  intro e h r ak
  simp only [dQ] at ak ⊢
  split at ak
  ·rename_i i e1 h1 h2
   rw [ih _ _ _ h2]
   exact ak
  ·rename_i aP
   rw [ih _ _ _ ak]
   obtain ⟨x,e1,h1⟩:=r
   cases x with
   |normal=>rfl
   |exit id=>exact (aP _ _ _ ak).elim
   |ret=>rfl
 |loop c ih=>intro e h r ak;simp only [dQ] at ak ⊢;exact T6 ih n m _ _ _ w8 ak
 |exit id=>intro e h r ak;exact ak
 |ret=>intro e h r ak;exact ak
 |label l=>intro e h r ak;exact ak
 |rangeFunc f ps a b _ _ =>
  intro e h r ak
  simp only [dQ,Kp] at ak ⊢
  split at ak
  ·split at ak
   ·rename_i hc
    rw [if_pos hc]
    split at ak
    ·rename_i hr;rw [hC _ _ _ _ hr];exact ak
    ·cases ak
   ·cases ak
  ·cases ak
 |scope c ih=>intro e h r ak;exact ih _ _ _ ak
 |goto l=>intro e h r ak;simp [dQ] at ak
 |refuse s=>intro e h r ak;simp [dQ] at ak

theorem zqJ {E E':Code→Env→Heap→Option (Ex × Env × Heap)} (hE:∀ c e h r,E c e h=some r→E' c e h=some r) {A:Nat} {args:List Value} {h:Heap} {r:Value × Heap} (ak:EJ E A args h=some r):EJ E' A args h=some r:=by
 unfold EJ at ak ⊢
 split at ak
 ·split at ak
  ·rename_i hc
   simp only [if_pos hc]
   split at ak
   ·rename_i h1
    rw [hE _ _ _ _ h1]
    simp only
    split at ak
    ·split at ak
     ·rename_i h2;rw [hE _ _ _ _ h2];exact ak
     ·rename_i h2;rw [hE _ _ _ _ h2];exact ak
     ·rename_i h2;rw [hE _ _ _ _ h2];exact ak
     ·cases ak
    ·cases ak
   ·cases ak
  ·cases ak
 ·cases ak

theorem WS {E E':Code→Env→Heap→Option (Ex × Env × Heap)} (hE:∀ c e h r,E c e h=some r→E' c e h=some r):∀ (pre:List Code) (e:Env) (h:Heap) (r:Env × Heap),uL E pre e h=some r→uL E' pre e h=some r
 | [],_,_,_,ak=>ak
 |c::cs,e,h,r,ak=>by
  simp only [uL] at ak ⊢
  split at ak
  ·rename_i hr
   rw [hE _ _ _ _ hr]
   exact WS hE cs _ _ _ ak
  ·cases ak
theorem zjx {E E':Code→Env→Heap→Option (Ex × Env × Heap)} (hE:∀ c e h r,E c e h=some r→E' c e h=some r) {fn:Func} {g:Value} {e3:Env} {h3:Heap} {r:Value × Heap} (ak:sj T E fn g e3 h3=some r):sj T E' fn g e3 h3=some r:=by
 unfold sj at ak ⊢
 split at ak
 ·simp only [Option.bind_eq_some_iff] at ak ⊢
  obtain ⟨fg,h1,cg,h2,ak⟩:=ak
  refine ⟨fg,h1,cg,h2,?_⟩
  split at ak
  ·rename_i hn
   rw [if_pos hn]
   split at ak
   ·rename_i hr
    rw [hE _ _ _ _ hr]
    exact ak
   ·rename_i hr
    rw [hE _ _ _ _ hr]
    exact ak
   ·cases ak
  ·cases ak
 ·cases ak
theorem zpL {C C':Fn→List Value→Heap→Option (Value × Heap)} (hC:Dj C C') {E E':Code→Env→Heap→Option (Ex × Env × Heap)} (hE:∀ c e h r,E c e h=some r→E' c e h=some r) {fn:Func} {c:Code} {e:Env} {h:Heap} {r:Value × Heap} (ak:C8 P T E C fn c e h=some r):C8 P T E' C' fn c e h=some r:=by
 unfold C8 at ak ⊢
 simp only [Option.bind_eq_some_iff,Prod.exists] at ak ⊢
 obtain ⟨pre,m,t,rest,cF,ak⟩:=ak
 refine ⟨pre,m,t,rest,cF,?_⟩
 split at ak
 ·rename_i hn
  rw [if_pos hn]
  simp only [Option.bind_eq_some_iff,Prod.exists] at ak ⊢
  obtain ⟨e1,h1,hp,v1,h2,ho,ak⟩:=ak
  refine ⟨e1,h1,WS hE _ _ _ _ hp,v1,h2,Ht hC ho,?_⟩
  split at ak
  ·rename_i hr
   rw [hE _ _ _ _ hr]
   exact zjx hE ak
  ·rename_i hr
   rw [hE _ _ _ _ hr]
   exact zjx hE ak
  ·cases ak
 ·cases ak
theorem pQ {ov:Ov}:∀ (n m:Nat),n≤m→Dj (call P T ov n) (call P T ov m)
 |0,_,_=>by intro f args h r ak;simp [call] at ak
 |n+1,0,hle=>by omega
 |n+1,m+1,hle=>by
  intro f args h r ak
  have ih:=pQ (ov:=ov) n m (by omega)
  cases f with
  |func f =>
   simp only [call] at ak ⊢
   split at ak
   ·exact ak
   ·simp only [Option.bind_eq_some_iff] at ak ⊢
    obtain ⟨fn,tP,c,hc,ak⟩:=ak
    refine ⟨fn,tP,c,hc,?_⟩
    split at ak
    ·rename_i rL
     rw [if_pos rL]
     exact zpL ih (fun c e h r hr=>yV ih (yW ih) (by omega) none c e h r hr) ak
    rename_i rL
    rw [if_neg rL]
    split at ak
    ·rename_i hr
     rw [yV ih (yW ih) (by omega) none _ _ _ _ hr]
     exact ak
    ·rename_i hr
     rw [yV ih (yW ih) (by omega) none _ _ _ _ hr]
     exact ak
    ·cases ak
  |yield A =>
   simp only [call] at ak ⊢
   exact zqJ (fun c e h r hr=>yV ih (yW ih) (by omega) (some A) c e h r hr) ak
  |_=>simp [call] at ak
end
end Go.Am
namespace Go.Am

structure Ext (h h':Heap):Prop where
 size:h.size≤h'.size
 get:∀ A,A < h.size→h'.get A=h.get A
 low:min h.low h.size≤h'.low

theorem Ext.refl (h:Heap):Ext h h:=⟨Nat.le_refl _,fun _ _=>rfl,Nat.min_le_left _ _⟩
theorem Ext.trans {a b c:Heap} (h:Ext a b) (k:Ext b c):Ext a c :=
 ⟨Nat.le_trans h.size k.size,fun A hA=>(k.get A (Nat.lt_of_lt_of_le hA h.size)).trans (h.get A hA),by have:=h.low;have:=k.low;have:=h.size;omega⟩
theorem Ext.push (h:Heap) (b:bh):Ext h (h.push b):=⟨Nat.le_succ _,fun A hA=>by rw [Heap.bu,if_neg (by omega)],by rw [Heap.de];omega⟩

section
variable (P:Program) (T:bK) (ov:Ov)

def uR (f:Fn) (args:List Value) (h:Heap) (K:Value→Heap→Prop):Prop:=∃ n v h',call P T ov n f args h=some (v,h')∧K v h'
def Ok (f:FuncId) (args:List Value) (h:Heap) (K:Value→Heap→Prop):Prop:=uR P T ov (.func f) args h K

def cq (r:Option (Value × Heap)) (K:Value→Heap→Prop):Prop:=match r with
 |some (v,h')=>K v h'
 |none=>False
def Dg (v:Value) (A B:Prop):Prop:=match v with
 | .bool t=>(t=true→A)∧(t=false→B)
 |_=>False
def sq (b:Bool) (A B:Prop):Prop:=if b=true then A else B

def UY:Fn→List Value→Heap→Option (Value × Heap):=fun _ _ _=>none

def cu (o:Oper) (e:Env) (h:Heap) (K:Value→Heap→Prop):Prop :=
 match o.op with
 | .call ⟨.value f,args,_⟩=>match bn e f with
  | .func (.func g) fi ca=>Ok P T ov g (fi.toList++args.toList.map (bn e)++ca.toList) h K
  | .func (.yield A) fi ca=>(fi.isEmpty && ca.isEmpty)=true∧uR P T ov (.yield A) (args.toList.map (bn e)) h K
  |_=>False
 | .call ⟨.invoke r name,args,_⟩=>match bn e r with
  | .iface t x=>(match tc T t x name h with
   |some (f,y)=>Ok P T ov f (y::args.toList.map (bn e)) h K
   |none=>False)
  |_=>False
 |_=>cq (iQ P T UY e o h) K

def dh (ops:Array Oper):List Oper→Env→Heap→(Env→Heap→Prop)→Prop
 | [],e,h,Q=>Q e h
 |o::l,e,h,Q=>sq (ma ops o e) (cu P T ov o e h fun v h'=>dh ops l (put e o.dst v) h' Q) (dh ops l (put e o.dst undef) h Q)

def cK (ops:Array Oper):List Oper→List Nat→Env→Heap→(List Nat→Env→Heap→Prop)→Prop
 | [],ks,e,h,Q=>Q ks e h
 |o::l,ks,e,h,Q =>
  sq (ma ops o e) (cu P T ov o e { h with low:=h.size } fun v h' =>
   cK ops l (ks++[ly T o e h h']) (put e o.dst v) { h' with low:=min h.low h'.low } Q)
   (cK ops l (ks++[0]) (put e o.dst undef) h Q)

def dJ (W:Env→Heap→(Ex→Env→Heap→Prop)→Prop) (Q:Ex→Env→Heap→Prop):Nat→Env→Heap→Prop
 |0,_,_=>False
 |n+1,e,h=>W e h fun
  | .normal,e',h'=>dJ W Q n e' h'
  |x,e',h'=>Q x e' h'

def H7 (r:Option (Ex × Env × Heap)) (Q:Ex→Env→Heap→Prop):Prop:=match r with
 |some (x,e,h)=>Q x e h
 |none=>False
def ze (rd:Option Nat) (g:Value) (ps:List Tmp) (assign body:Code) (e:Env) (h:Heap) (Q:Ex→Env→Heap→Prop):Prop :=
 match g with
 | .func (.func f) fi ca=>(RP rd h && Sd T f)=true ∧
  Ok P T ov f (fi.toList++[.func (.yield h.size) #[] #[]]++ca.toList) (h.push (.loop e ps assign body .ready none)) fun _ h2=>H7 (yX h.size e h2) Q
 |_=>False
def W (rd:Option Nat):Code→Env→Heap→(Ex→Env→Heap→Prop)→Prop
 | .skip,e,h,Q=>Q .normal e h
 | .region _ ops false,e,h,Q=>dh P T ov ops ops.toList e h (Q .normal)
 | .region _ ops true,e,h,Q=>cK P T ov ops ops.toList [] e h fun ks e' h'=>HP ops ks (nh ops.toList [])=true∧Q .normal e' h'
 | .seq a b,e,h,Q=>W rd a e h fun
  | .normal,e',h'=>W rd b e' h' Q
  |x,e',h'=>Q x e' h'
 | .cond c a b,e,h,Q=>Dg (bn e c) (W rd a e h Q) (W rd b e h Q)
 | .block id c,e,h,Q=>W rd c e h fun
  | .exit i,e',h'=>if i=id then Q .normal e' h' else Q (.exit i) e' h'
  |x,e',h'=>Q x e' h'
 | .loop c,e,h,Q=>∃ n,dJ (W rd c) Q n e h
 | .exit id,e,h,Q=>Q (.exit id) e h
 | .ret,e,h,Q=>Q .ret e h
 | .label _,e,h,Q=>Q .normal e h
 | .scope c,e,h,Q=>W rd c e h Q
 | .rangeFunc g ps assign body,e,h,Q=>ze P T ov rd (bn e g) ps.toList assign body e h Q
 |_,_,_,_=>False
end

section
variable {P:Program} {T:bK} {ov:Ov} {rd:Option Nat}

theorem uR.mono {f:Fn} {args:List Value} {h:Heap} {K K':Value→Heap→Prop} (hk:uR P T ov f args h K) (hm:∀ v h',K v h'→K' v h'):uR P T ov f args h K':=by
 obtain ⟨n,v,h',h1,h2⟩:=hk
 exact ⟨n,v,h',h1,hm v h' h2⟩
theorem Ok.mono {f:FuncId} {args:List Value} {h:Heap} {K K':Value→Heap→Prop} (hk:Ok P T ov f args h K) (hm:∀ v h',K v h'→K' v h'):Ok P T ov f args h K':=by
 obtain ⟨n,v,h',h1,h2⟩:=hk
 exact ⟨n,v,h',h1,hm v h' h2⟩

theorem zsY (C:Fn→List Value→Heap→Option (Value × Heap)):Dj UY C:=by intro f args h r hr;cases hr

theorem cu.sound {o:Oper} {e:Env} {h:Heap} {K:Value→Heap→Prop} (hw:cu P T ov o e h K):∃ n v h',iQ P T (call P T ov n) e o h=some (v,h')∧K v h':=by
 unfold cu at hw
 split at hw
 ·rename_i f args fb aV
  split at hw
  ·rename_i g fi ca hf
   obtain ⟨n,v,h',h1,h2⟩:=hw
   refine ⟨n,v,h',?_,h2⟩
   unfold iQ
   simp only [aV,hf]
   exact h1
  ·rename_i A fi ca hf
   obtain ⟨hc,n,v,h',h1,h2⟩:=hw
   refine ⟨n,v,h',?_,h2⟩
   unfold iQ
   simp only [aV,hf]
   rw [if_pos hc]
   exact h1
  ·exact hw.elim
 ·rename_i r name args fb aV
  split at hw
  ·rename_i t x hr
   split at hw
   ·rename_i f y hm
    obtain ⟨n,v,h',h1,h2⟩:=hw
    refine ⟨n,v,h',?_,h2⟩
    unfold iQ
    simp only [aV,hr,hm]
    exact h1
   ·exact hw.elim
  ·exact hw.elim
 ·unfold cq at hw
  split at hw
  ·rename_i v h' h1
   exact ⟨0,v,h',Ht (zsY _) h1,hw⟩
  ·exact hw.elim

theorem dh.sound {ops:Array Oper}:∀ (l:List Oper) (e:Env) (h:Heap) (Q:Env→Heap→Prop),dh P T ov ops l e h Q→∃ n e' h',sg P T (call P T ov n) ops l e h=some (e',h')∧Q e' h'
 | [],e,h,Q,hw=>⟨0,e,h,rfl,hw⟩
 |o::l,e,h,Q,hw=>by
  simp only [dh,sq] at hw
  split at hw
  ·rename_i je
   obtain ⟨n,v,h1,h2,h3⟩:=cu.sound hw
   obtain ⟨m,e',h',h4,h5⟩:=dh.sound l _ _ _ h3
   refine ⟨max n m,e',h',?_,h5⟩
   simp only [sg,je,if_true]
   rw [Ht (pQ n (max n m) (Nat.le_max_left _ _)) h2]
   exact WQ (pQ m (max n m) (Nat.le_max_right _ _)) _ _ _ _ h4
  ·rename_i je
   obtain ⟨m,e',h',h4,h5⟩:=dh.sound l _ _ _ hw
   refine ⟨m,e',h',?_,h5⟩
   simp only [sg]
   rw [if_neg je]
   exact h4

theorem cK.sound {ops:Array Oper}:∀ (l:List Oper) (ks:List Nat) (e:Env) (h:Heap) (Q:List Nat→Env→Heap→Prop),cK P T ov ops l ks e h Q →
 ∃ n gA e' h',rh P T (call P T ov n) ops l e h=some (gA,e',h')∧Q (ks++gA) e' h'
 | [],ks,e,h,Q,hw=>⟨0,[],e,h,rfl,by rw [List.append_nil];exact hw⟩
 |o::l,ks,e,h,Q,hw=>by
  simp only [cK,sq] at hw
  split at hw
  ·rename_i je
   obtain ⟨n,v,h1,h2,h3⟩:=cu.sound hw
   obtain ⟨m,gA,e',h',h4,h5⟩:=cK.sound l _ _ _ _ h3
   refine ⟨max n m,_::gA,e',h',?_,by rw [List.append_assoc] at h5;exact h5⟩
   simp only [rh,je,if_true]
   rw [Ht (pQ n (max n m) (Nat.le_max_left _ _)) h2]
   simp only [WD (pQ m (max n m) (Nat.le_max_right _ _)) _ _ _ _ h4,Option.map_some]
  ·rename_i je
   obtain ⟨m,gA,e',h',h4,h5⟩:=cK.sound l _ _ _ _ hw
   refine ⟨m,0::gA,e',h',?_,by rw [List.append_assoc] at h5;exact h5⟩
   simp only [rh]
   rw [if_neg je,h4]
   rfl

theorem dJ.mono {W:Env→Heap→(Ex→Env→Heap→Prop)→Prop} (hW:∀ e h Q Q',(∀ x e h,Q x e h→Q' x e h)→W e h Q→W e h Q') {Q Q':Ex→Env→Heap→Prop} (hq:∀ x e h,Q x e h→Q' x e h):∀ (n:Nat) (e:Env) (h:Heap),dJ W Q n e h→dJ W Q' n e h
 |0,_,_,hw=>hw
 |n+1,e,h,hw=>by
  simp only [dJ] at hw ⊢
  refine hW _ _ _ _ ?_ hw
  intro x e' h'
  cases x with
  |normal=>exact dJ.mono hW hq n e' h'
  |exit id=>exact hq _ _ _
  |ret=>exact hq _ _ _

theorem W.sound:∀ (c:Code) (e:Env) (h:Heap) (Q:Ex→Env→Heap→Prop),W P T ov rd c e h Q→∃ n x e' h',dQ P T (call P T ov n) (nU P T (call P T ov n)) rd n c e h=some (x,e',h')∧Q x e' h':=by
 intro c
 have lift:∀ {n m:Nat} (c:Code) (e:Env) (h:Heap) (r:Ex × Env × Heap),n≤m→dQ P T (call P T ov n) (nU P T (call P T ov n)) rd n c e h=some r→dQ P T (call P T ov m) (nU P T (call P T ov m)) rd m c e h=some r :=
  fun c e h r w8=>yV (pQ _ _ w8) (yW (pQ _ _ w8)) w8 rd c e h r
 induction c with
 |skip=>intro e h Q hw;exact ⟨0,.normal,e,h,rfl,hw⟩
 |region id ops d =>
  intro e h Q hw
  cases d with
  |false =>
   simp only [W] at hw
   obtain ⟨n,e',h',h1,h2⟩:=dh.sound _ _ _ _ hw
   exact ⟨n,.normal,e',h',by simp [dQ,h1],h2⟩
  |true =>
   simp only [W] at hw
   obtain ⟨n,ks,e',h',h1,h2,h3⟩:=cK.sound _ _ _ _ _ hw
   rw [List.nil_append] at h2
   refine ⟨n,.normal,e',h',?_,h3⟩
   simp [dQ,nU,h1,h2]
 |seq a b iN iO =>
  intro e h Q hw
  simp only [W] at hw
  obtain ⟨n,x,e1,h1,h2,h3⟩:=iN _ _ _ hw
  cases x with
  |normal =>
   obtain ⟨m,x,e2,h4,h5,h6⟩:=iO _ _ _ h3
   refine ⟨max n m,x,e2,h4,?_,h6⟩
   simp only [dQ]
   rw [lift a e h _ (Nat.le_max_left n m) h2]
   exact lift b _ _ _ (Nat.le_max_right n m) h5
  |exit id=>exact ⟨n,.exit id,e1,h1,by simp only [dQ];rw [h2],h3⟩
  |ret=>exact ⟨n,.ret,e1,h1,by simp only [dQ];rw [h2],h3⟩
 |cond c a b iN iO =>
  intro e h Q hw
  simp only [W,Dg] at hw
  split at hw
  ·rename_i t ht
   cases t with
   |true =>
    obtain ⟨n,x,e1,h1,h2,h3⟩:=iN _ _ _ (hw.1 rfl)
    exact ⟨n,x,e1,h1,by simp only [dQ,ht];exact h2,h3⟩
   |false =>
    obtain ⟨n,x,e1,h1,h2,h3⟩:=iO _ _ _ (hw.2 rfl)
    exact ⟨n,x,e1,h1,by simp only [dQ,ht];exact h2,h3⟩
  ·exact hw.elim
 |block id c ih =>
  intro e h Q hw
  simp only [W] at hw
  obtain ⟨n,x,e1,h1,h2,h3⟩:=ih _ _ _ hw
  cases x with
  |normal=>exact ⟨n,.normal,e1,h1,by simp only [dQ];rw [h2],h3⟩
  |exit i =>
   by_cases hi:i=id
   ·exact ⟨n,.normal,e1,h1,by simp only [dQ,h2,if_pos hi],by simpa only [if_pos hi] using h3⟩
   ·exact ⟨n,.exit i,e1,h1,by simp only [dQ,h2,if_neg hi],by simpa only [if_neg hi] using h3⟩
  |ret=>exact ⟨n,.ret,e1,h1,by simp only [dQ];rw [h2],h3⟩
 |loop c ih =>
  intro e h Q hw
  simp only [W] at hw
  obtain ⟨k,hw⟩:=hw
  have key:∀ (k:Nat) (e:Env) (h:Heap),dJ (W P T ov rd c) Q k e h→∃ n x e' h',iter (dQ P T (call P T ov n) (nU P T (call P T ov n)) rd n c) n e h=some (x,e',h')∧Q x e' h':=by
   intro k
   induction k with
   |zero=>intro e h hw;exact hw.elim
   |succ k nq =>
    intro e h hw
    simp only [dJ] at hw
    obtain ⟨n,x,e1,h1,h2,h3⟩:=ih _ _ _ hw
    cases x with
    |normal =>
     obtain ⟨m,x,e2,h4,h5,h6⟩:=nq _ _ h3
     refine ⟨max n m+1,x,e2,h4,?_,h6⟩
     simp only [iter]
     rw [lift c e h _ (show n≤max n m+1 by omega) h2]
     exact T6 (fun e h r hr=>lift c e h r (show m≤max n m+1 by omega) hr) m (max n m) _ _ _ (Nat.le_max_right _ _) h5
    |exit id=>exact ⟨n+1,.exit id,e1,h1,by simp only [iter];rw [lift c e h _ (Nat.le_succ n) h2],h3⟩
    |ret=>exact ⟨n+1,.ret,e1,h1,by simp only [iter];rw [lift c e h _ (Nat.le_succ n) h2],h3⟩
  obtain ⟨n,x,e',h',h1,h2⟩:=key k e h hw
  exact ⟨n,x,e',h',by simp only [dQ];exact h1,h2⟩
 |exit id=>intro e h Q hw;exact ⟨0,.exit id,e,h,rfl,hw⟩
 |ret=>intro e h Q hw;exact ⟨0,.ret,e,h,rfl,hw⟩
 |label l=>intro e h Q hw;exact ⟨0,.normal,e,h,rfl,hw⟩
 |rangeFunc g ps a b _ _ =>
  intro e h Q hw
  simp only [W,ze] at hw
  split at hw
  ·rename_i f fi ca hg
   obtain ⟨hc,n,v,h1,h2,h3⟩:=hw
   unfold H7 at h3
   split at h3
   ·rename_i x e' h' h4
    refine ⟨n,x,e',h',?_,h3⟩
    simp only [dQ,Kp,hg]
    rw [if_pos hc,h2]
    exact h4
   ·exact h3.elim
  ·exact hw.elim
 |scope c ih=>intro e h Q hw;exact ih _ _ _ hw
 |goto l=>intro e h Q hw;exact hw.elim
 |refuse s=>intro e h Q hw;exact hw.elim

theorem Ok.enter {f:FuncId} {fn:Func} {c:Code} {args:List Value} {h:Heap} {K:Value→Heap→Prop} (ho:ov f=none) (hf:T.fn f=some fn) (hc:fn.body=some c) (rL:T.FA f=false)
 (hw:W P T ov none c (args++List.replicate (fn.ntmps - args.length) undef) h fun x e' h'=>(x=.ret∨x=.normal)∧∃ v,mj T fn e' h'=some v∧K v h'):Ok P T ov f args h K:=by
 obtain ⟨n,x,e',h',h1,hx,v,h2,h3⟩:=W.sound _ _ _ _ hw
 refine ⟨n+1,v,h',?_,h3⟩
 simp only [call,ho,hf,hc,Option.bind_some,h1,rL,Bool.false_eq_true,if_false]
 rcases hx with rfl|rfl <;> simp [h2]


theorem uR.round {A:Nat} {env:List Value} {ps:List Tmp} {assign body:Code} {st:LoopState} {dN:Option Code} {args:List Value} {h:Heap} {K:Value→Heap→Prop} (hg:h.get A=some (.loop env ps assign body st dN)) (hl:args.length=ps.length)
 (hw:W P T ov (some A) assign (eE env ps args) h fun x e1 h1=>x=.normal∧∃ oQ AV Mi Mj jf,h1.get A=some (.loop oQ AV Mi Mj .ready jf) ∧
  W P T ov (some A) body e1 (h1.set A (.loop oQ AV Mi Mj .busy jf)) fun x _ h2=>cq (xT A (match x with | .normal=>none | .ret=>some .ret | .exit id=>some (.exit id)) h2) K):uR P T ov (.yield A) args h K:=by
 obtain ⟨n,x,e1,h1,r1,rfl,oQ,AV,Mi,Mj,jf,r2,hw⟩:=W.sound _ _ _ _ hw
 obtain ⟨m,x,e2,h2,r3,hk⟩:=W.sound _ _ _ _ hw
 unfold cq at hk
 split at hk
 ·rename_i v h' r4
  refine ⟨max n m+1,v,h',?_,hk⟩
  have l1:=yV (P:=P) (T:=T) (pQ (ov:=ov) n (max n m) (Nat.le_max_left _ _)) (yW (pQ n (max n m) (Nat.le_max_left _ _))) (Nat.le_max_left n m) (some A) _ _ _ _ r1
  have l2:=yV (P:=P) (T:=T) (pQ (ov:=ov) m (max n m) (Nat.le_max_right _ _)) (yW (pQ m (max n m) (Nat.le_max_right _ _))) (Nat.le_max_right n m) (some A) _ _ _ _ r3
  simp only [call,EJ,hg,hl,if_true,l1,r2,l2]
  cases x <;> exact r4
 ·exact hk.elim

theorem Ok.over {f:FuncId} {g:List Value→Heap→Option (Value × Heap)} {args:List Value} {h h':Heap} {v:Value} {K:Value→Heap→Prop} (ho:ov f=some g) (hg:g args h=some (v,h')) (hk:K v h'):Ok P T ov f args h K :=
 ⟨1,v,h',by simp [call,ho,hg],hk⟩

theorem W.loop {c:Code} {e:Env} {h:Heap} {Q:Ex→Env→Heap→Prop} (I:Env→Heap→Prop) (μ:Env→Heap→Nat) (h0:I e h)
 (round:∀ e h,I e h→W P T ov rd c e h fun x e' h'=>match x with | .normal=>I e' h'∧μ e' h' < μ e h|x=>Q x e' h') (hm:∀ e h Q Q',(∀ x e h,Q x e h→Q' x e h)→W P T ov rd c e h Q→W P T ov rd c e h Q'):W P T ov rd (.loop c) e h Q:=by
 have key:∀ (n:Nat) (e:Env) (h:Heap),μ e h < n→I e h→dJ (W P T ov rd c) Q n e h:=by
  intro n
  induction n with
  |zero=>intro e h hn;omega
  |succ n ih =>
   intro e h hn hI
   simp only [dJ]
   refine hm _ _ _ _ ?_ (round e h hI)
   intro x e' h'
   cases x with
   |normal=>exact fun hh=>ih e' h' (by omega) hh.1
   |exit i=>exact fun hh=>hh
   |ret=>exact fun hh=>hh
 exact ⟨μ e h+1,key _ e h (Nat.lt_succ_self _) h0⟩

theorem cu.mono {o:Oper} {e:Env} {h:Heap} {K K':Value→Heap→Prop} (hk:∀ v h',K v h'→K' v h') (hw:cu P T ov o e h K):cu P T ov o e h K':=by
 unfold cu at hw ⊢
 split at hw
 ·split at hw
  ·exact hw.mono hk
  ·exact ⟨hw.1,hw.2.mono hk⟩
  ·exact hw.elim
 ·split at hw
  ·split at hw
   ·exact hw.mono hk
   ·exact hw.elim
  ·exact hw.elim
 ·unfold cq at hw ⊢
  split at hw
  ·rename_i v h' h1;exact hk v h' hw
  ·exact hw.elim
theorem dh.mono {ops:Array Oper}:∀ (l:List Oper) (e:Env) (h:Heap) (Q Q':Env→Heap→Prop),(∀ e h,Q e h→Q' e h)→dh P T ov ops l e h Q→dh P T ov ops l e h Q'
 | [],_,_,_,_,hq,hw=>hq _ _ hw
 |o::l,e,h,Q,Q',hq,hw=>by
  simp only [dh,sq] at hw ⊢
  split at hw
  ·rename_i je;rw [if_pos je];exact cu.mono (fun v h'=>dh.mono l _ _ _ _ hq) hw
  ·rename_i je;rw [if_neg je];exact dh.mono l _ _ _ _ hq hw
theorem cK.mono {ops:Array Oper}:∀ (l:List Oper) (ks:List Nat) (e:Env) (h:Heap) (Q Q':List Nat→Env→Heap→Prop),(∀ ks e h,Q ks e h→Q' ks e h)→cK P T ov ops l ks e h Q→cK P T ov ops l ks e h Q'
 | [],_,_,_,_,_,hq,hw=>hq _ _ _ hw
 |o::l,ks,e,h,Q,Q',hq,hw=>by
  simp only [cK,sq] at hw ⊢
  split at hw
  ·rename_i je;rw [if_pos je];exact cu.mono (fun v h'=>cK.mono l _ _ _ _ _ hq) hw
  ·rename_i je;rw [if_neg je];exact cK.mono l _ _ _ _ _ hq hw
theorem W.mono:∀ (c:Code) (e:Env) (h:Heap) (Q Q':Ex→Env→Heap→Prop),(∀ x e h,Q x e h→Q' x e h)→W P T ov rd c e h Q→W P T ov rd c e h Q':=by
 intro c
 induction c with
 |skip=>intro e h Q Q' hq hw;exact hq _ _ _ hw
 |region id ops d =>
  intro e h Q Q' hq hw
  cases d with
  |false=>exact dh.mono _ _ _ _ _ (hq _) hw
  |true=>exact cK.mono _ _ _ _ _ _ (fun ks e h hh=>⟨hh.1,hq _ _ _ hh.2⟩) hw
 |seq a b iN iO =>
  intro e h Q Q' hq hw
  simp only [W] at hw ⊢
  refine iN _ _ _ _ ?_ hw
  intro x e' h'
  cases x with
  |normal=>exact iO _ _ _ _ hq
  |exit id=>exact hq _ _ _
  |ret=>exact hq _ _ _
 |cond c a b iN iO =>
  intro e h Q Q' hq hw
  simp only [W,Dg] at hw ⊢
  split at hw
  ·exact ⟨fun ht=>iN _ _ _ _ hq (hw.1 ht),fun ht=>iO _ _ _ _ hq (hw.2 ht)⟩
  ·exact hw.elim
 |block id c ih =>
  intro e h Q Q' hq hw
  simp only [W] at hw ⊢
  refine ih _ _ _ _ ?_ hw
  intro x e' h'
  cases x with
  |normal=>exact hq _ _ _
  |exit i =>
   intro hh
   by_cases hi:i=id
   ·simp only [if_pos hi] at hh ⊢;exact hq _ _ _ hh
   ·simp only [if_neg hi] at hh ⊢;exact hq _ _ _ hh
  |ret=>exact hq _ _ _
 |loop c ih =>
  intro e h Q Q' hq hw
  simp only [W] at hw ⊢
  obtain ⟨n,hw⟩:=hw
  exact ⟨n,dJ.mono ih hq n e h hw⟩
 |exit id=>intro e h Q Q' hq hw;exact hq _ _ _ hw
 |ret=>intro e h Q Q' hq hw;exact hq _ _ _ hw
 |label l=>intro e h Q Q' hq hw;exact hq _ _ _ hw
 |rangeFunc g ps a b _ _ =>
  intro e h Q Q' hq hw
  simp only [W,ze] at hw ⊢
  split at hw
  ·refine ⟨hw.1,hw.2.mono fun v h2 hh=>?_⟩
   unfold H7 at hh ⊢
   split at hh
   ·exact hq _ _ _ hh
   ·exact hh.elim
  ·exact hw.elim
 |scope c ih=>intro e h Q Q' hq hw;exact ih _ _ _ _ hq hw
 |goto l=>intro e h Q Q' hq hw;exact hw.elim
 |refuse s=>intro e h Q Q' hq hw;exact hw.elim

theorem W.Pc {c:Code} {e:Env} {h:Heap} {Q:Ex→Env→Heap→Prop} (I:Env→Heap→Prop) (μ:Env→Heap→Nat) (h0:I e h)
 (round:∀ e h,I e h→W P T ov rd c e h fun x e' h'=>match x with | .normal=>I e' h'∧μ e' h' < μ e h|x=>Q x e' h'):W P T ov rd (.loop c) e h Q:=W.loop I μ h0 round (W.mono c)
/-! ### For simp: what is left to do is data, so that simp goes by the head -/
structure Hid (p:Prop):Prop where
 out:p
theorem CR (p:Prop):Hid p=p:=propext ⟨Hid.out,Hid.mk⟩
section
variable (P:Program) (T:bK) (ov:Ov) (rd:Option Nat)
def vO (ops:Array Oper) (l:List Oper) (d:Option Tmp) (Q:Env→Heap→Prop) (e:Env):Value→Heap→Prop:=fun v h'=>Hid (dh P T ov ops l (put e d v) h' Q)
def VT (ops:Array Oper) (o:Oper) (l:List Oper) (e:Env) (h:Heap) (Q:Env→Heap→Prop) (b:Bool):Prop:=if b=true then cu P T ov o e h (vO P T ov ops l o.dst Q e) else dh P T ov ops l (put e o.dst undef) h Q
def HQ (a b:Code) (e:Env) (h:Heap) (Q:Ex→Env→Heap→Prop) (v:Value):Prop:=Dg v (W P T ov rd a e h Q) (W P T ov rd b e h Q)
def Ky (b:Code) (Q:Ex→Env→Heap→Prop):Ex→Env→Heap→Prop
 | .normal,e',h'=>W P T ov rd b e' h' Q
 | .exit i,e',h'=>Q (.exit i) e' h'
 | .ret,e',h'=>Q .ret e' h'
def Ez (id:Nat) (Q:Ex→Env→Heap→Prop):Ex→Env→Heap→Prop
 | .normal,e',h'=>Q .normal e' h'
 | .exit i,e',h'=>if i=id then Q .normal e' h' else Q (.exit i) e' h'
 | .ret,e',h'=>Q .ret e' h'
def Ym (Q:Ex→Env→Heap→Prop):Env→Heap→Prop:=Q .normal
def aC (fn:Func) (K:Value→Heap→Prop):Ex→Env→Heap→Prop:=fun x e' h'=>(x=.ret∨x=.normal)∧∃ v,mj T fn e' h'=some v∧K v h'
def zi (e:Env):List Operand→List Value
 | []=>[]
 |x::xs=>bn e x::zi e xs
def XA (o:Oper):Bool:=match o.op with
 | .call ⟨.value _,_,_⟩=>true
 | .call ⟨.invoke _ _,_,_⟩=>true
 |_=>false
def nW (args:List Value) (h:Heap) (K:Value→Heap→Prop) (v:Value):Prop:=match v with
 | .func (.func g) fi ca=>Ok P T ov g (fi.toList++args++ca.toList) h K
 | .func (.yield A) fi ca=>(fi.isEmpty && ca.isEmpty)=true∧uR P T ov (.yield A) args h K
 |_=>False
end

theorem RO (e:Env):∀ xs:List Operand,xs.map (bn e)=zi e xs
 | []=>rfl
 |x::xs=>by rw [List.map_cons,zi,RO e xs]
theorem zup (e:Env):zi e []=[]:=rfl
theorem zsg (e:Env) (x:Operand) (xs:List Operand):zi e (x::xs)=bn e x::zi e xs:=rfl
theorem zwc (v:Value) (h:Heap) (K:Value→Heap→Prop):cq (some (v,h)) K=K v h:=rfl
theorem zyx (ops:Array Oper) (e:Env) (h:Heap) (Q:Env→Heap→Prop):dh P T ov ops [] e h Q=Q e h:=rfl
theorem zm4 (ops:Array Oper) (o:Oper) (l:List Oper) (e:Env) (h:Heap) (Q:Env→Heap→Prop):dh P T ov ops (o::l) e h Q=VT P T ov ops o l e h Q (ma ops o e):=by
 simp only [dh,sq,VT]
 split
 ·exact propext ⟨cu.mono fun _ _ hw=>⟨hw⟩,cu.mono fun _ _ hw=>hw.out⟩
 ·rfl
theorem ztN (ops:Array Oper) (o:Oper) (l:List Oper) (e:Env) (h:Heap) (Q:Env→Heap→Prop):VT P T ov ops o l e h Q true=cu P T ov o e h (vO P T ov ops l o.dst Q e):=rfl
theorem zqV (ops:Array Oper) (o:Oper) (l:List Oper) (e:Env) (h:Heap) (Q:Env→Heap→Prop):VT P T ov ops o l e h Q false=dh P T ov ops l (put e o.dst undef) h Q:=rfl
theorem zyu (ops:Array Oper) (l:List Oper) (d:Option Tmp) (Q:Env→Heap→Prop) (e:Env) (v:Value) (h:Heap):vO P T ov ops l d Q e v h=dh P T ov ops l (put e d v) h Q:=CR _
theorem zyw {o:Oper} {e:Env} {h:Heap} {K:Value→Heap→Prop} (hc:XA o=false):cu P T ov o e h K=cq (iQ P T UY e o h) K:=by
 unfold cu
 split
 ·rename_i aV;simp [XA,aV] at hc
 ·rename_i aV;simp [XA,aV] at hc
 ·rfl
theorem zyv (d:Option Tmp) (f:Operand) (args:List Operand) (fb:Array TypeId) (ty:TypeId) (pos:String) (af:Array Edge) (g:Option (Nat × Bool)) (e:Env) (h:Heap) (K:Value→Heap→Prop) :
 cu P T ov ⟨d,.call ⟨.value f,⟨args⟩,fb⟩,ty,pos,af,g⟩ e h K=nW P T ov (zi e args) h K (bn e f):=by
 rw [← RO];rfl
theorem rj (g:FuncId) (args:List Value) (h:Heap) (K:Value→Heap→Prop):nW P T ov args h K (.func (.func g) #[] #[])=Ok P T ov g args h K:=by
 simp [nW]
theorem uC (g:FuncId) (fi ca:Array Value) (args:List Value) (h:Heap) (K:Value→Heap→Prop):nW P T ov args h K (.func (.func g) fi ca)=Ok P T ov g (fi.toList++args++ca.toList) h K:=rfl
theorem zHk (e:Env) (h:Heap) (Q:Ex→Env→Heap→Prop):W P T ov rd .skip e h Q=Q .normal e h:=rfl
theorem zyy (id:Nat) (ops:List Oper) (e:Env) (h:Heap) (Q:Ex→Env→Heap→Prop):W P T ov rd (.region id ⟨ops⟩ false) e h Q=dh P T ov ⟨ops⟩ ops e h (Ym Q):=rfl
theorem zvE (Q:Ex→Env→Heap→Prop) (e:Env) (h:Heap):Ym Q e h=Q .normal e h:=rfl
theorem OP (a b:Code) (e:Env) (h:Heap) (Q:Ex→Env→Heap→Prop):W P T ov rd (.seq a b) e h Q=W P T ov rd a e h (Ky P T ov rd b Q):=by
 simp only [W]
 congr 1
 funext x e' h'
 cases x <;> rfl
theorem zum (id:Nat) (c:Code) (e:Env) (h:Heap) (Q:Ex→Env→Heap→Prop):W P T ov rd (.block id c) e h Q=W P T ov rd c e h (Ez id Q):=by
 simp only [W]
 congr 1
 funext x e' h'
 cases x <;> rfl
theorem zHg (c:Operand) (a b:Code) (e:Env) (h:Heap) (Q:Ex→Env→Heap→Prop):W P T ov rd (.cond c a b) e h Q=HQ P T ov rd a b e h Q (bn e c):=rfl
theorem zsx (a b:Code) (e:Env) (h:Heap) (Q:Ex→Env→Heap→Prop):HQ P T ov rd a b e h Q (.bool true)=W P T ov rd a e h Q:=by simp [HQ,Dg]
theorem zpH (a b:Code) (e:Env) (h:Heap) (Q:Ex→Env→Heap→Prop):HQ P T ov rd a b e h Q (.bool false)=W P T ov rd b e h Q:=by simp [HQ,Dg]
theorem zHh (id:Nat) (e:Env) (h:Heap) (Q:Ex→Env→Heap→Prop):W P T ov rd (.exit id) e h Q=Q (.exit id) e h:=rfl
theorem zIx (e:Env) (h:Heap) (Q:Ex→Env→Heap→Prop):W P T ov rd .ret e h Q=Q .ret e h:=rfl
theorem zEV (l:Nat) (e:Env) (h:Heap) (Q:Ex→Env→Heap→Prop):W P T ov rd (.label l) e h Q=Q .normal e h:=rfl
theorem zpg (b:Code) (Q:Ex→Env→Heap→Prop) (e:Env) (h:Heap):Ky P T ov rd b Q .normal e h=W P T ov rd b e h Q:=rfl
theorem zt0 (b:Code) (Q:Ex→Env→Heap→Prop) (i:Nat) (e:Env) (h:Heap):Ky P T ov rd b Q (.exit i) e h=Q (.exit i) e h:=rfl
theorem zyc (b:Code) (Q:Ex→Env→Heap→Prop) (e:Env) (h:Heap):Ky P T ov rd b Q .ret e h=Q .ret e h:=rfl
theorem zlU (id:Nat) (Q:Ex→Env→Heap→Prop) (e:Env) (h:Heap):Ez id Q .normal e h=Q .normal e h:=rfl
theorem zpx (id:Nat) (Q:Ex→Env→Heap→Prop) (e:Env) (h:Heap):Ez id Q (.exit id) e h=Q .normal e h:=by simp [Ez]
theorem zsl (id:Nat) (Q:Ex→Env→Heap→Prop) (e:Env) (h:Heap):Ez id Q .ret e h=Q .ret e h:=rfl
theorem Ok.aH {f:FuncId} {fn:Func} {c:Code} {args:List Value} {h:Heap} {K:Value→Heap→Prop} (ho:ov f=none) (hf:T.fn f=some fn) (hc:fn.body=some c) (rL:T.FA f=false) {m:Nat} (hm:fn.ntmps - args.length=m)
 (hw:W P T ov none c (args++List.replicate m undef) h (aC T fn K)):Ok P T ov f args h K:=Ok.enter ho hf hc rL (by rw [hm];exact hw)
def Yl (I:Env→Heap→Prop) (μ:Env→Heap→Nat) (e:Env) (h:Heap) (Q:Ex→Env→Heap→Prop):Ex→Env→Heap→Prop
 | .normal,e',h'=>I e' h'∧μ e' h' < μ e h
 | .exit i,e',h'=>Q (.exit i) e' h'
 | .ret,e',h'=>Q .ret e' h'
theorem zsT (I:Env→Heap→Prop) (μ:Env→Heap→Nat) (e:Env) (h:Heap) (Q:Ex→Env→Heap→Prop) (i:Nat) (e':Env) (h':Heap):Yl I μ e h Q (.exit i) e' h'=Q (.exit i) e' h':=rfl
theorem zvt (I:Env→Heap→Prop) (μ:Env→Heap→Nat) (e:Env) (h:Heap) (Q:Ex→Env→Heap→Prop) (e':Env) (h':Heap):Yl I μ e h Q .ret e' h'=Q .ret e' h':=rfl
theorem zog {I:Env→Heap→Prop} {μ:Env→Heap→Nat} {e:Env} {h:Heap} {Q:Ex→Env→Heap→Prop} {e':Env} {h':Heap} (h1:I e' h') (h2:μ e' h' < μ e h):Yl I μ e h Q .normal e' h':=⟨h1,h2⟩
theorem zHi {c:Code} {e:Env} {h:Heap} {Q:Ex→Env→Heap→Prop} (I:Env→Heap→Prop) (μ:Env→Heap→Nat) (h0:I e h) (round:∀ e h,I e h→W P T ov rd c e h (Yl I μ e h Q)):W P T ov rd (.loop c) e h Q :=
 W.Pc I μ h0 fun e h hI=>W.mono c e h _ _ (fun x e' h' hh=>by cases x <;> exact hh) (round e h hI)

section
variable (C:Fn→List Value→Heap→Option (Value × Heap)) (d:Option Tmp) (ty:TypeId) (pos:String) (af:Array Edge) (g:Option (Nat × Bool)) (e:Env) (h:Heap)
def zNC (c a b:Value) (h:Heap):Option (Value × Heap):=match c with | .bool t=>some (if t then a else b,h)|_=>none
def adF (v:Value) (h:Heap):Option (Value × Heap):=match v with
 | .pointer (some a)=>some (.pointer (some a),h)
 | .func (.func f) a b=>some (.func (.func f) a b,h)
 | .iface t a=>some (.iface t a,h)
 |_=>none
def aem (v:Value) (i:Nat) (h:Heap):Option (Value × Heap):=match v with | .tuple vs=>(vs[i]?).map fun r=>(r,h)|_=>none
end
theorem zyr (ops:Array Oper) (d:Option Tmp) (op:Op) (ty:TypeId) (pos:String) (af:Array Edge) (e:Env):ma ops ⟨d,op,ty,pos,af,none⟩ e=true:=rfl
def Dc (v:Value) (b:Bool):Bool:=match v with | .bool c=>c == b|_=>false

theorem Ev {op:BinOp} {t:TypeId} {k:IntKind} {a b:Int} {v:Value} (hv:rp op (.int k a) (.int k b)=some v):cw P T op t (.int k a) (.int k b)=some v:=by simp [cw,hv]
section
variable (t:TypeId) (k:IntKind) (a b:Int)
theorem zFb:cw P T .add t (.int k a) (.int k b)=some (.int k (k.wrap (a+b))):=Ev (by simp [rp])
theorem zFm:cw P T .sub t (.int k a) (.int k b)=some (.int k (k.wrap (a - b))):=Ev (by simp [rp])
theorem zFd:cw P T .eql t (.int k a) (.int k b)=some (.bool (a == b)):=Ev (by simp [rp])
theorem zFi:cw P T .neq t (.int k a) (.int k b)=some (.bool (a != b)):=Ev (by simp [rp])
theorem zFh:cw P T .lss t (.int k a) (.int k b)=some (.bool (a < b)):=Ev (by simp [rp])
theorem zFg:cw P T .leq t (.int k a) (.int k b)=some (.bool (a≤b)):=Ev (by simp [rp])
theorem zFf:cw P T .gtr t (.int k a) (.int k b)=some (.bool (a > b)):=Ev (by simp [rp])
theorem zFe:cw P T .geq t (.int k a) (.int k b)=some (.bool (a ≥ b)):=Ev (by simp [rp])
end

end
end Go.Am
