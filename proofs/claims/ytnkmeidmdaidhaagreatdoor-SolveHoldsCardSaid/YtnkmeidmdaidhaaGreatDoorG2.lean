/- More fuel changes nothing. No condition. -/
import Derived.Test.YtnkmeidmdaidhaaGreatDoorG1
set_option linter.unusedSimpArgs false
namespace Go.Am
variable {r:ai × Heap} {h:Heap} {E E':Code->Env->Heap->Option (Ex × Env × Heap)}

def Au (C C':Fn->List ai->Heap->Option (ai × Heap)):Prop:=∀ f args h r,C f args h=some r->C' f args h=some r
def XD (D D':Array Oper->Env->Heap->Option (Env × Heap)):Prop:=∀ ops e h r,D ops e h=some r->D' ops e h=some r

section
variable {P:Program} {T:bN} {C C':Fn->List ai->Heap->Option (ai × Heap)}

theorem F7 (hC:Au C C') {e:Env} {o:Oper} (aj:iq P T C e o h=some r):iq P T C' e o h=some r:=by
 obtain ⟨dst,op,ty,pos,after,guard⟩:=o
 cases op <;> simp only [iq] at aj ⊢ <;> try exact aj
 case call c =>
  obtain ⟨callee,args,ia⟩:=c
  cases callee with
  |value f =>
   simp only at aj ⊢
   split at aj
   .exact hC _ _ _ _ aj
   .split at aj
    .rename_i hc;rw [aB hc];exact hC _ _ _ _ aj
    .cases aj
   .cases aj
  |invoke rv m =>
   simp only at aj ⊢
   split at aj
   .simp only [cy,Prod.exists] at aj ⊢
    obtain ⟨f,y,hm,aj⟩:=aj
    exact ⟨f,y,hm,hC _ _ _ _ aj⟩
   .cases aj
  |builtin b=>cases b <;> exact aj

theorem NQ (hC:Au C C') {ops:Array Oper}:∀ (l:List Oper) (e:Env) (h:Heap) (r:Env × Heap),rE P T C ops l e h=some r->rE P T C' ops l e h=some r
 | [],_,_,_,aj=>aj
 |o::l,e,h,r,aj=>by
  simp only [rE] at aj ⊢
  split at aj
  .rename_i hw
   rw [aB hw]
   split at aj
   .rename_i v h1 h2
    rw [F7 hC h2]
    exact NQ hC l _ _ _ aj
   .cases aj
  .rename_i hw
   rw [aA hw]
   exact NQ hC l _ _ _ aj

theorem NX (hC:Au C C') {ops:Array Oper}:∀ (l:List Oper) (e:Env) (h:Heap) (r:List Nat × Env × Heap),qv P T C ops l e h=some r->qv P T C' ops l e h=some r
 | [],_,_,_,aj=>aj
 |o::l,e,h,r,aj=>by
  simp only [qv] at aj ⊢
  split at aj
  .rename_i hw
   rw [aB hw]
   split at aj
   .rename_i v h1 h2
    rw [F7 hC h2]
    simp only [cn,Prod.exists] at aj ⊢
    obtain ⟨ks,x1,x2,hr,rfl⟩:=aj
    exact ⟨ks,x1,x2,NX hC l _ _ _ hr,rfl⟩
   .cases aj
  .rename_i hw
   rw [aA hw]
   simp only [cn,Prod.exists] at aj ⊢
   obtain ⟨ks,x1,x2,hr,rfl⟩:=aj
   exact ⟨ks,x1,x2,NX hC l _ _ _ hr,rfl⟩

theorem zP (hC:Au C C'):XD (pg P T C) (pg P T C'):=by
 intro ops e h r aj
 unfold pg at aj ⊢
 split at aj
 .rename_i hr
  rw [NX hC _ _ _ _ hr]
  exact aj
 .cases aj

theorem Wj {f f':Env->Heap->Option (Ex × Env × Heap)} (hf:∀ e h r,f e h=some r->f' e h=some r):∀ (n m:Nat) (e:Env) (h:Heap) (r:Ex × Env × Heap),n<=m->iter f n e h=some r->iter f' m e h=some r
 |0,_,_,_,_,_,hi=>by simp [iter] at hi
 |n+1,0,_,_,_,hle,_=>by omega
 |n+1,m+1,e,h,r,hle,hi=>by
  simp only [iter] at hi ⊢
  split at hi
  .rename_i e1 h1 h2
   rw [hf _ _ _ h2]
   exact Wj hf n m _ _ _ (by omega) hi
  .rename_i aL
   rw [hf _ _ _ hi]
   obtain ⟨x,e1,h1⟩:=r
   cases x with
   |normal=>exact (aL _ _ hi).elim
   |exit id=>rfl
   |ret=>rfl

theorem zO (hC:Au C C') {D D':Array Oper->Env->Heap->Option (Env × Heap)} (hD:XD D D') {n m:Nat} (qj:n<=m) (rd:Option Nat):∀ (c:Code) (e:Env) (h:Heap) (r:Ex × Env × Heap),dL P T C D rd n c e h=some r->dL P T C' D' rd m c e h=some r:=by
 intro c
 induction c with
 |skip=>intro e h r aj;exact aj
 |region id ops d =>
  intro e h r aj
  simp only [dL,cn,Prod.exists] at aj ⊢
  obtain ⟨e1,h1,hr,rfl⟩:=aj
  refine ⟨e1,h1,?_,rfl⟩
  cases d with
  |true=>simp only [if_true] at hr ⊢;exact hD _ _ _ _ hr
  |false=>simp only [gH,if_false] at hr ⊢;exact NQ hC _ _ _ _ hr
 |seq a b jh ji =>
  intro e h r aj
  simp only [dL] at aj ⊢
  split at aj
  .rename_i e1 h1 h2
   rw [jh _ _ _ h2]
   exact ji _ _ _ aj
  .rename_i aL
   rw [jh _ _ _ aj]
   obtain ⟨x,e1,h1⟩:=r
   cases x with
   |normal=>exact (aL _ _ aj).elim
   |exit id=>rfl
   |ret=>rfl
 |cond c a b jh ji =>
  intro e h r aj
  simp only [dL] at aj ⊢
  split at aj
  .exact jh _ _ _ aj
  .exact ji _ _ _ aj
  .cases aj
 |block id c ih =>
  intro e h r aj
  simp only [dL] at aj ⊢
  split at aj
  .rename_i i e1 h1 h2
   rw [ih _ _ _ h2]
   exact aj
  .rename_i aL
   rw [ih _ _ _ aj]
   obtain ⟨x,e1,h1⟩:=r
   cases x with
   |normal=>rfl
   |exit id=>exact (aL _ _ _ aj).elim
   |ret=>rfl
 |loop c ih=>intro e h r aj;simp only [dL] at aj ⊢;exact Wj ih n m _ _ _ qj aj
 |exit id=>intro e h r aj;exact aj
 |ret=>intro e h r aj;exact aj
 |label l=>intro e h r aj;exact aj
 |rangeFunc f ps a b _ _ =>
  intro e h r aj
  simp only [dL,GY] at aj ⊢
  split at aj
  .split at aj
   .rename_i hc
    rw [aB hc]
    split at aj
    .rename_i hr;rw [hC _ _ _ _ hr];exact aj
    .cases aj
   .cases aj
  .cases aj
 |scope c ih=>intro e h r aj;exact ih _ _ _ aj
 |goto l=>intro e h r aj;simp [dL] at aj
 |refuse s=>intro e h r aj;simp [dL] at aj

theorem zqQ (hE:∀ c e h r,E c e h=some r->E' c e h=some r) {A:Nat} {args:List ai} (aj:B9 E A args h=some r):B9 E' A args h=some r:=by
 unfold B9 at aj ⊢
 split at aj
 .split at aj
  .rename_i hc
   simp only [aB hc]
   split at aj
   .rename_i h1
    rw [hE _ _ _ _ h1]
    simp only
    split at aj
    .split at aj
     .rename_i h2;rw [hE _ _ _ _ h2];exact aj
     .rename_i h2;rw [hE _ _ _ _ h2];exact aj
     .rename_i h2;rw [hE _ _ _ _ h2];exact aj
     .cases aj
    .cases aj
   .cases aj
  .cases aj
 .cases aj

theorem Vi {E E':Code->Env->Heap->Option (Ex × Env × Heap)} (hE:∀ c e h r,E c e h=some r->E' c e h=some r):∀ (pre:List Code) (e:Env) (h:Heap) (r:Env × Heap),tD E pre e h=some r->tD E' pre e h=some r
 | [],_,_,_,aj=>aj
 |c::cs,e,h,r,aj=>by
  simp only [tD] at aj ⊢
  split at aj
  .rename_i hr
   rw [hE _ _ _ _ hr]
   exact Vi hE cs _ _ _ aj
  .cases aj
theorem zjy (hE:∀ c e h r,E c e h=some r->E' c e h=some r) {fn:Func} {g:ai} {e3:Env} {h3:Heap} (aj:tI T E fn g e3 h3=some r):tI T E' fn g e3 h3=some r:=by
 unfold tI at aj ⊢
 split at aj
 .simp only [cy] at aj ⊢
  obtain ⟨fg,h1,cg,h2,aj⟩:=aj
  refine ⟨fg,h1,cg,h2,?_⟩
  split at aj
  .rename_i hn
   rw [aB hn]
   split at aj
   .rename_i hr
    rw [hE _ _ _ _ hr]
    exact aj
   .rename_i hr
    rw [hE _ _ _ _ hr]
    exact aj
   .cases aj
  .cases aj
 .cases aj
theorem zqe {C C':Fn->List ai->Heap->Option (ai × Heap)} (hC:Au C C') (hE:∀ c e h r,E c e h=some r->E' c e h=some r) {fn:Func} {c:Code} {e:Env} (aj:B5 P T E C fn c e h=some r):B5 P T E' C' fn c e h=some r:=by
 unfold B5 at aj ⊢
 simp only [cy,Prod.exists] at aj ⊢
 obtain ⟨pre,m,t,rest,dq,aj⟩:=aj
 refine ⟨pre,m,t,rest,dq,?_⟩
 split at aj
 .rename_i hn
  rw [aB hn]
  simp only [cy,Prod.exists] at aj ⊢
  obtain ⟨e1,h1,hp,v1,h2,ho,aj⟩:=aj
  refine ⟨e1,h1,Vi hE _ _ _ _ hp,v1,h2,F7 hC ho,?_⟩
  split at aj
  .rename_i hr
   rw [hE _ _ _ _ hr]
   exact zjy hE aj
  .rename_i hr
   rw [hE _ _ _ _ hr]
   exact zjy hE aj
  .cases aj
 .cases aj
theorem rB {ov:Ov}:∀ (n m:Nat),n<=m->Au (call P T ov n) (call P T ov m)
 |0,_,_=>by intro f args h r aj;simp [call] at aj
 |n+1,0,hle=>by omega
 |n+1,m+1,hle=>by
  intro f args h r aj
  have ih:=rB (ov:=ov) n m (by omega)
  cases f with
  |func f =>
   simp only [call] at aj ⊢
   split at aj
   .exact aj
   .simp only [cy] at aj ⊢
    obtain ⟨fn,kT,c,hc,aj⟩:=aj
    refine ⟨fn,kT,c,hc,?_⟩
    split at aj
    .rename_i yH
     rw [aB yH]
     exact zqe ih (λc e h r hr=>zO ih (zP ih) (by omega) none c e h r hr) aj
    rename_i yH
    rw [aA yH]
    split at aj
    .rename_i hr
     rw [zO ih (zP ih) (by omega) none _ _ _ _ hr]
     exact aj
    .rename_i hr
     rw [zO ih (zP ih) (by omega) none _ _ _ _ hr]
     exact aj
    .cases aj
  |yield A =>
   simp only [call] at aj ⊢
   exact zqQ (λc e h r hr=>zO ih (zP ih) (by omega) (some A) c e h r hr) aj
  |_=>simp [call] at aj
end
end Go.Am
namespace Go.Am
variable {K:aO} {args:List ai} {f:FuncId} {c:Code} {Q:Ex->Env->Heap->Prop}

structure Ext (h h':Heap):Prop where
 size:h.size<=h'.size
 get:∀ A,A < h.size->h'.get A=h.get A
 low:min h.low h.size<=h'.low

theorem Ext.refl (h:Heap):Ext h h:=⟨aQ _,λ_ _=>rfl,xj _ _⟩
theorem Ext.trans {a b c:Heap} (h:Ext a b) (k:Ext b c):Ext a c :=
 ⟨dZ h.size k.size,λA hA=>(k.get A (dt hA h.size)).trans (h.get A hA),by have:=h.low;have:=k.low;have:=h.size;omega⟩
theorem Ext.push (h:Heap) (b:aZ):Ext h (h.push b):=⟨mN _,λA hA=>by rw [Heap.bH,aA (by omega)],by rw [Heap.eO];omega⟩
theorem Ext.set {h h':Heap} (e:Ext h h') {A:Nat} (hA:h.size<=A) (fw:A < h'.size) (b:aZ):Ext h (h'.set A b) :=
 ⟨e.size,λB hB=>by rw [Heap.aH _ _ _ _ fw,aA (by omega)];exact e.get B hB,by rw [Heap.cA];have:=e.low;omega⟩

section
variable (P:Program) (T:bN) (ov:Ov)

def Av (f:Fn) (args:List ai) (h:Heap) (K:aO):Prop:=∃ n v h',call P T ov n f args h=some (v,h')/\K v h'
def Ok (f:FuncId) (args:List ai) (h:Heap) (K:aO):Prop:=Av P T ov (.func f) args h K

def dz (r:Option (ai × Heap)) (K:aO):Prop:=match r with
 |some (v,h')=>K v h'
 |none=>False
def Ff (v:ai) (A B:Prop):Prop:=match v with
 | .bool t=>(t=true->A)/\(t=false->B)
 |_=>False
def rM (b:Bool) (A B:Prop):Prop:=if b=true then A else B

def W3:Fn->List ai->Heap->Option (ai × Heap):=λ_ _ _=>none

def cO (o:Oper) (e:Env) (h:Heap) (K:aO):Prop :=
 match o.op with
 | .call ⟨.value f,args,_⟩=>match bE e f with
  | .func (.func g) fi ca=>Ok P T ov g (fi.toList++args.toList.map (bE e)++ca.toList) h K
  | .func (.yield A) fi ca=>(fi.isEmpty && ca.isEmpty)=true/\Av P T ov (.yield A) (args.toList.map (bE e)) h K
  |_=>False
 | .call ⟨.invoke r name,args,_⟩=>match bE e r with
  | .iface t x=>(match O0 T t x name h with
   |some (f,y)=>Ok P T ov f (y::args.toList.map (bE e)) h K
   |none=>False)
  |_=>False
 |_=>dz (iq P T W3 e o h) K

def dc (ops:Array Oper):List Oper->Env->Heap->(Env->Heap->Prop)->Prop
 | [],e,h,Q=>Q e h
 |o::l,e,h,Q=>rM (mI ops o e) (cO P T ov o e h λv h'=>dc ops l (put e o.dst v) h' Q) (dc ops l (put e o.dst undef) h Q)

def cj (ops:Array Oper):List Oper->List Nat->Env->Heap->(List Nat->Env->Heap->Prop)->Prop
 | [],ks,e,h,Q=>Q ks e h
 |o::l,ks,e,h,Q =>
  rM (mI ops o e) (cO P T ov o e { h with low:=h.size } λv h' =>
   cj ops l (ks++[lh T o e h h']) (put e o.dst v) { h' with low:=min h.low h'.low } Q)
   (cj ops l (ks++[0]) (put e o.dst undef) h Q)

def dM (W:Env->Heap->(Ex->Env->Heap->Prop)->Prop) (Q:Ex->Env->Heap->Prop):Nat->Env->Heap->Prop
 |0,_,_=>False
 |n+1,e,h=>W e h fun
  | .normal,e',h'=>dM W Q n e' h'
  |x,e',h'=>Q x e' h'

def Mx (r:Option (Ex × Env × Heap)) (Q:Ex->Env->Heap->Prop):Prop:=match r with
 |some (x,e,h)=>Q x e h
 |none=>False
def GZ (rd:Option Nat) (g:ai) (ps:List Tmp) (assign body:Code) (e:Env) (h:Heap) (Q:Ex->Env->Heap->Prop):Prop :=
 match g with
 | .func (.func f) fi ca=>(Ws rd h && Xe T f)=true /\
  Ok P T ov f (fi.toList++[.func (.yield h.size) #[] #[]]++ca.toList) (h.push (.loop e ps assign body .ready none)) λ_ h2=>Mx (Gd h.size e h2) Q
 |_=>False
def W (rd:Option Nat):Code->Env->Heap->(Ex->Env->Heap->Prop)->Prop
 | .skip,e,h,Q=>Q .normal e h
 | .region _ ops false,e,h,Q=>dc P T ov ops ops.toList e h (Q .normal)
 | .region _ ops true,e,h,Q=>cj P T ov ops ops.toList [] e h λks e' h'=>Pa ops ks (nR ops.toList [])=true/\Q .normal e' h'
 | .seq a b,e,h,Q=>W rd a e h fun
  | .normal,e',h'=>W rd b e' h' Q
  |x,e',h'=>Q x e' h'
 | .cond c a b,e,h,Q=>Ff (bE e c) (W rd a e h Q) (W rd b e h Q)
 | .block id c,e,h,Q=>W rd c e h fun
  | .exit i,e',h'=>if i=id then Q .normal e' h' else Q (.exit i) e' h'
  |x,e',h'=>Q x e' h'
 | .loop c,e,h,Q=>∃ n,dM (W rd c) Q n e h
 | .exit id,e,h,Q=>Q (.exit id) e h
 | .ret,e,h,Q=>Q .ret e h
 | .label _,e,h,Q=>Q .normal e h
 | .scope c,e,h,Q=>W rd c e h Q
 | .rangeFunc g ps assign body,e,h,Q=>GZ P T ov rd (bE e g) ps.toList assign body e h Q
 |_,_,_,_=>False
end

section
variable {P:Program} {T:bN} {ov:Ov} {rd:Option Nat}

theorem Av.mono {f:Fn} {h:Heap} {K':aO} (hk:Av P T ov f args h K) (hm:∀ v h',K v h'->K' v h'):Av P T ov f args h K':=by
 obtain ⟨n,v,h',h1,h2⟩:=hk
 exact ⟨n,v,h',h1,hm v h' h2⟩
theorem Ok.mono {h:Heap} {K':aO} (hk:Ok P T ov f args h K) (hm:∀ v h',K v h'->K' v h'):Ok P T ov f args h K':=by
 obtain ⟨n,v,h',h1,h2⟩:=hk
 exact ⟨n,v,h',h1,hm v h' h2⟩

theorem ztN (C:Fn->List ai->Heap->Option (ai × Heap)):Au W3 C:=by intro f args h r hr;cases hr

theorem cO.sound {o:Oper} {e:Env} {h:Heap} (hw:cO P T ov o e h K):∃ n v h',iq P T (call P T ov n) e o h=some (v,h')/\K v h':=by
 unfold cO at hw
 split at hw
 .rename_i f args ia aP
  split at hw
  .rename_i g fi ca hf
   obtain ⟨n,v,h',h1,h2⟩:=hw
   refine ⟨n,v,h',?_,h2⟩
   unfold iq
   simp only [aP,hf]
   exact h1
  .rename_i A fi ca hf
   obtain ⟨hc,n,v,h',h1,h2⟩:=hw
   refine ⟨n,v,h',?_,h2⟩
   unfold iq
   simp only [aP,hf]
   rw [aB hc]
   exact h1
  .exact hw.elim
 .rename_i r name args ia aP
  split at hw
  .rename_i t x hr
   split at hw
   .rename_i f y hm
    obtain ⟨n,v,h',h1,h2⟩:=hw
    refine ⟨n,v,h',?_,h2⟩
    unfold iq
    simp only [aP,hr,hm]
    exact h1
   .exact hw.elim
  .exact hw.elim
 .unfold dz at hw
  split at hw
  .rename_i v h' h1
   exact ⟨0,v,h',F7 (ztN _) h1,hw⟩
  .exact hw.elim

theorem dc.sound {ops:Array Oper}:∀ (l:List Oper) (e:Env) (h:Heap) (Q:Env->Heap->Prop),dc P T ov ops l e h Q->∃ n e' h',rE P T (call P T ov n) ops l e h=some (e',h')/\Q e' h'
 | [],e,h,Q,hw=>⟨0,e,h,rfl,hw⟩
 |o::l,e,h,Q,hw=>by
  simp only [dc,rM] at hw
  split at hw
  .rename_i gA
   obtain ⟨n,v,h1,h2,h3⟩:=cO.sound hw
   obtain ⟨m,e',h',h4,h5⟩:=dc.sound l _ _ _ h3
   refine ⟨max n m,e',h',?_,h5⟩
   simp only [rE,gA,if_true]
   rw [F7 (rB n (max n m) (yl _ _)) h2]
   exact NQ (rB m (max n m) (yj _ _)) _ _ _ _ h4
  .rename_i gA
   obtain ⟨m,e',h',h4,h5⟩:=dc.sound l _ _ _ hw
   refine ⟨m,e',h',?_,h5⟩
   simp only [rE]
   rw [aA gA]
   exact h4

theorem cj.sound {ops:Array Oper}:∀ (l:List Oper) (ks:List Nat) (e:Env) (h:Heap) (Q:List Nat->Env->Heap->Prop),cj P T ov ops l ks e h Q ->
 ∃ n ez e' h',qv P T (call P T ov n) ops l e h=some (ez,e',h')/\Q (ks++ez) e' h'
 | [],ks,e,h,Q,hw=>⟨0,[],e,h,rfl,by rw [bD];exact hw⟩
 |o::l,ks,e,h,Q,hw=>by
  simp only [cj,rM] at hw
  split at hw
  .rename_i gA
   obtain ⟨n,v,h1,h2,h3⟩:=cO.sound hw
   obtain ⟨m,ez,e',h',h4,h5⟩:=cj.sound l _ _ _ _ h3
   refine ⟨max n m,_::ez,e',h',?_,by rw [sE] at h5;exact h5⟩
   simp only [qv,gA,if_true]
   rw [F7 (rB n (max n m) (yl _ _)) h2]
   simp only [NX (rB m (max n m) (yj _ _)) _ _ _ _ h4,kK]
  .rename_i gA
   obtain ⟨m,ez,e',h',h4,h5⟩:=cj.sound l _ _ _ _ hw
   refine ⟨m,0::ez,e',h',?_,by rw [sE] at h5;exact h5⟩
   simp only [qv]
   rw [aA gA,h4]
   rfl

theorem dM.mono {W:Env->Heap->(Ex->Env->Heap->Prop)->Prop} (hW:∀ e h Q Q',(∀ x e h,Q x e h->Q' x e h)->W e h Q->W e h Q') {Q Q':Ex->Env->Heap->Prop} (hq:∀ x e h,Q x e h->Q' x e h):∀ (n:Nat) (e:Env) (h:Heap),dM W Q n e h->dM W Q' n e h
 |0,_,_,hw=>hw
 |n+1,e,h,hw=>by
  simp only [dM] at hw ⊢
  refine hW _ _ _ _ ?_ hw
  intro x e' h'
  cases x with
  |normal=>exact dM.mono hW hq n e' h'
  |exit id=>exact hq _ _ _
  |ret=>exact hq _ _ _

theorem W.sound:∀ (c:Code) (e:Env) (h:Heap) (Q:Ex->Env->Heap->Prop),W P T ov rd c e h Q->∃ n x e' h',dL P T (call P T ov n) (pg P T (call P T ov n)) rd n c e h=some (x,e',h')/\Q x e' h':=by
 intro c
 have lift:∀ {n m:Nat} (c:Code) (e:Env) (h:Heap) (r:Ex × Env × Heap),n<=m->dL P T (call P T ov n) (pg P T (call P T ov n)) rd n c e h=some r->dL P T (call P T ov m) (pg P T (call P T ov m)) rd m c e h=some r :=
  λc e h r qj=>zO (rB _ _ qj) (zP (rB _ _ qj)) qj rd c e h r
 induction c with
 |skip=>intro e h Q hw;exact ⟨0,.normal,e,h,rfl,hw⟩
 |region id ops d =>
  intro e h Q hw
  cases d with
  |false =>
   simp only [W] at hw
   obtain ⟨n,e',h',h1,h2⟩:=dc.sound _ _ _ _ hw
   exact ⟨n,.normal,e',h',by simp [dL,h1],h2⟩
  |true =>
   simp only [W] at hw
   obtain ⟨n,ks,e',h',h1,h2,h3⟩:=cj.sound _ _ _ _ _ hw
   rw [yk] at h2
   refine ⟨n,.normal,e',h',?_,h3⟩
   simp [dL,pg,h1,h2]
 |seq a b jh ji =>
  intro e h Q hw
  simp only [W] at hw
  obtain ⟨n,x,e1,h1,h2,h3⟩:=jh _ _ _ hw
  cases x with
  |normal =>
   obtain ⟨m,x,e2,h4,h5,h6⟩:=ji _ _ _ h3
   refine ⟨max n m,x,e2,h4,?_,h6⟩
   simp only [dL]
   rw [lift a e h _ (yl n m) h2]
   exact lift b _ _ _ (yj n m) h5
  |exit id=>exact ⟨n,.exit id,e1,h1,by simp only [dL];rw [h2],h3⟩
  |ret=>exact ⟨n,.ret,e1,h1,by simp only [dL];rw [h2],h3⟩
 |cond c a b jh ji =>
  intro e h Q hw
  simp only [W,Ff] at hw
  split at hw
  .rename_i t ht
   cases t with
   |true =>
    obtain ⟨n,x,e1,h1,h2,h3⟩:=jh _ _ _ (hw.1 rfl)
    exact ⟨n,x,e1,h1,by simp only [dL,ht];exact h2,h3⟩
   |false =>
    obtain ⟨n,x,e1,h1,h2,h3⟩:=ji _ _ _ (hw.2 rfl)
    exact ⟨n,x,e1,h1,by simp only [dL,ht];exact h2,h3⟩
  .exact hw.elim
 |block id c ih =>
  intro e h Q hw
  simp only [W] at hw
  obtain ⟨n,x,e1,h1,h2,h3⟩:=ih _ _ _ hw
  cases x with
  |normal=>exact ⟨n,.normal,e1,h1,by simp only [dL];rw [h2],h3⟩
  |exit i =>
   by_cases hi:i=id
   .exact ⟨n,.normal,e1,h1,by simp only [dL,h2,aB hi],by simpa only [aB hi] using h3⟩
   .exact ⟨n,.exit i,e1,h1,by simp only [dL,h2,aA hi],by simpa only [aA hi] using h3⟩
  |ret=>exact ⟨n,.ret,e1,h1,by simp only [dL];rw [h2],h3⟩
 |loop c ih =>
  intro e h Q hw
  simp only [W] at hw
  obtain ⟨k,hw⟩:=hw
  have key:∀ (k:Nat) (e:Env) (h:Heap),dM (W P T ov rd c) Q k e h->∃ n x e' h',iter (dL P T (call P T ov n) (pg P T (call P T ov n)) rd n c) n e h=some (x,e',h')/\Q x e' h':=by
   intro k
   induction k with
   |zero=>intro e h hw;exact hw.elim
   |succ k mG =>
    intro e h hw
    simp only [dM] at hw
    obtain ⟨n,x,e1,h1,h2,h3⟩:=ih _ _ _ hw
    cases x with
    |normal =>
     obtain ⟨m,x,e2,h4,h5,h6⟩:=mG _ _ h3
     refine ⟨max n m+1,x,e2,h4,?_,h6⟩
     simp only [iter]
     rw [lift c e h _ (show n<=max n m+1 by omega) h2]
     exact Wj (λe h r hr=>lift c e h r (show m<=max n m+1 by omega) hr) m (max n m) _ _ _ (yj _ _) h5
    |exit id=>exact ⟨n+1,.exit id,e1,h1,by simp only [iter];rw [lift c e h _ (mN n) h2],h3⟩
    |ret=>exact ⟨n+1,.ret,e1,h1,by simp only [iter];rw [lift c e h _ (mN n) h2],h3⟩
  obtain ⟨n,x,e',h',h1,h2⟩:=key k e h hw
  exact ⟨n,x,e',h',by simp only [dL];exact h1,h2⟩
 |exit id=>intro e h Q hw;exact ⟨0,.exit id,e,h,rfl,hw⟩
 |ret=>intro e h Q hw;exact ⟨0,.ret,e,h,rfl,hw⟩
 |label l=>intro e h Q hw;exact ⟨0,.normal,e,h,rfl,hw⟩
 |rangeFunc g ps a b _ _ =>
  intro e h Q hw
  simp only [W,GZ] at hw
  split at hw
  .rename_i f fi ca hg
   obtain ⟨hc,n,v,h1,h2,h3⟩:=hw
   unfold Mx at h3
   split at h3
   .rename_i x e' h' h4
    refine ⟨n,x,e',h',?_,h3⟩
    simp only [dL,GY,hg]
    rw [aB hc,h2]
    exact h4
   .exact h3.elim
  .exact hw.elim
 |scope c ih=>intro e h Q hw;exact ih _ _ _ hw
 |goto l=>intro e h Q hw;exact hw.elim
 |refuse s=>intro e h Q hw;exact hw.elim

theorem Ok.enter {fn:Func} {h:Heap} (ho:ov f=none) (hf:T.fn f=some fn) (hc:fn.body=some c) (yH:T.HZ f=false)
 (hw:W P T ov none c (args++List.replicate (fn.ntmps - args.length) undef) h λx e' h'=>(x=.ret\/x=.normal)/\∃ v,nc T fn e' h'=some v/\K v h'):Ok P T ov f args h K:=by
 obtain ⟨n,x,e',h',h1,hx,v,h2,h3⟩:=W.sound _ _ _ _ hw
 refine ⟨n+1,v,h',?_,h3⟩
 simp only [call,ho,hf,hc,dH,h1,yH,gH,if_false]
 rcases hx with rfl|rfl <;> simp [h2]

def nX (P:Program) (T:bN) (ov:Ov):List Code->Env->Heap->(Env->Heap->Prop)->Prop
 | [],e,h,Q=>Q e h
 |c::cs,e,h,Q=>W P T ov none c e h λx e' h'=>x=.normal/\nX P T ov cs e' h' Q
theorem nX.sound:∀ (pre:List Code) (e:Env) (h:Heap) (Q:Env->Heap->Prop),nX P T ov pre e h Q->∃ n e' h',tD (dL P T (call P T ov n) (pg P T (call P T ov n)) none n) pre e h=some (e',h')/\Q e' h'
 | [],e,h,Q,hw=>⟨0,e,h,rfl,hw⟩
 |c::cs,e,h,Q,hw=>by
  simp only [nX] at hw
  obtain ⟨n,x,e1,h1,r1,rfl,hw⟩:=W.sound _ _ _ _ hw
  obtain ⟨k,e2,h2,r2,hq⟩:=nX.sound cs e1 h1 Q hw
  refine ⟨max n k,e2,h2,?_,hq⟩
  simp only [tD]
  rw [zO (rB _ _ (yl n k)) (zP (rB _ _ (yl n k))) (yl n k) none _ _ _ _ r1]
  exact Vi (λc e h r=>zO (rB _ _ (yj n k)) (zP (rB _ _ (yj n k))) (yj n k) none c e h r) _ _ _ _ r2

theorem Av.round {A:Nat} {env:List ai} {ps:List Tmp} {assign body:Code} {st:LoopState} {fF:Option Code} {h:Heap} (hg:h.get A=some (.loop env ps assign body st fF)) (hl:args.length=ps.length)
 (hw:W P T ov (some A) assign (iJ env ps args) h λx e1 h1=>x=.normal/\∃ qS Ed PX PY jZ,h1.get A=some (.loop qS Ed PX PY .ready jZ) /\
  W P T ov (some A) body e1 (h1.set A (.loop qS Ed PX PY .busy jZ)) λx _ h2=>dz (BN A (match x with | .normal=>none | .ret=>some .ret | .exit id=>some (.exit id)) h2) K):Av P T ov (.yield A) args h K:=by
 obtain ⟨n,x,e1,h1,r1,rfl,qS,Ed,PX,PY,jZ,r2,hw⟩:=W.sound _ _ _ _ hw
 obtain ⟨m,x,e2,h2,r3,hk⟩:=W.sound _ _ _ _ hw
 unfold dz at hk
 split at hk
 .rename_i v h' r4
  refine ⟨max n m+1,v,h',?_,hk⟩
  have l1:=zO (P:=P) (T:=T) (rB (ov:=ov) n (max n m) (yl _ _)) (zP (rB n (max n m) (yl _ _))) (yl n m) (some A) _ _ _ _ r1
  have l2:=zO (P:=P) (T:=T) (rB (ov:=ov) m (max n m) (yj _ _)) (zP (rB m (max n m) (yj _ _))) (yj n m) (some A) _ _ _ _ r3
  simp only [call,B9,hg,hl,if_true,l1,r2,l2]
  cases x <;> exact r4
 .exact hk.elim

theorem Ok.over {g:List ai->Heap->Option (ai × Heap)} {h h':Heap} {v:ai} (ho:ov f=some g) (hg:g args h=some (v,h')) (hk:K v h'):Ok P T ov f args h K :=
 ⟨1,v,h',by simp [call,ho,hg],hk⟩

theorem W.loop {c:Code} {e:Env} {h:Heap} {Q:Ex->Env->Heap->Prop} (I:Env->Heap->Prop) (μ:Env->Heap->Nat) (h0:I e h)
 (round:∀ e h,I e h->W P T ov rd c e h λx e' h'=>match x with | .normal=>I e' h'/\μ e' h' < μ e h|x=>Q x e' h') (hm:∀ e h Q Q',(∀ x e h,Q x e h->Q' x e h)->W P T ov rd c e h Q->W P T ov rd c e h Q'):W P T ov rd (.loop c) e h Q:=by
 have key:∀ (n:Nat) (e:Env) (h:Heap),μ e h < n->I e h->dM (W P T ov rd c) Q n e h:=by
  intro n
  induction n with
  |zero=>intro e h hn;omega
  |succ n ih =>
   intro e h hn hI
   simp only [dM]
   refine hm _ _ _ _ ?_ (round e h hI)
   intro x e' h'
   cases x with
   |normal=>exact λhh=>ih e' h' (by omega) hh.1
   |exit i=>exact λhh=>hh
   |ret=>exact λhh=>hh
 exact ⟨μ e h+1,key _ e h (nj _) h0⟩

theorem cO.mono {o:Oper} {e:Env} {h:Heap} {K K':aO} (hk:∀ v h',K v h'->K' v h') (hw:cO P T ov o e h K):cO P T ov o e h K':=by
 unfold cO at hw ⊢
 split at hw
 .split at hw
  .exact hw.mono hk
  .exact ⟨hw.1,hw.2.mono hk⟩
  .exact hw.elim
 .split at hw
  .split at hw
   .exact hw.mono hk
   .exact hw.elim
  .exact hw.elim
 .unfold dz at hw ⊢
  split at hw
  .rename_i v h' h1;exact hk v h' hw
  .exact hw.elim
theorem dc.mono {ops:Array Oper}:∀ (l:List Oper) (e:Env) (h:Heap) (Q Q':Env->Heap->Prop),(∀ e h,Q e h->Q' e h)->dc P T ov ops l e h Q->dc P T ov ops l e h Q'
 | [],_,_,_,_,hq,hw=>hq _ _ hw
 |o::l,e,h,Q,Q',hq,hw=>by
  simp only [dc,rM] at hw ⊢
  split at hw
  .rename_i gA;rw [aB gA];exact cO.mono (λv h'=>dc.mono l _ _ _ _ hq) hw
  .rename_i gA;rw [aA gA];exact dc.mono l _ _ _ _ hq hw
theorem cj.mono {ops:Array Oper}:∀ (l:List Oper) (ks:List Nat) (e:Env) (h:Heap) (Q Q':List Nat->Env->Heap->Prop),(∀ ks e h,Q ks e h->Q' ks e h)->cj P T ov ops l ks e h Q->cj P T ov ops l ks e h Q'
 | [],_,_,_,_,_,hq,hw=>hq _ _ _ hw
 |o::l,ks,e,h,Q,Q',hq,hw=>by
  simp only [cj,rM] at hw ⊢
  split at hw
  .rename_i gA;rw [aB gA];exact cO.mono (λv h'=>cj.mono l _ _ _ _ _ hq) hw
  .rename_i gA;rw [aA gA];exact cj.mono l _ _ _ _ _ hq hw
theorem W.mono:∀ (c:Code) (e:Env) (h:Heap) (Q Q':Ex->Env->Heap->Prop),(∀ x e h,Q x e h->Q' x e h)->W P T ov rd c e h Q->W P T ov rd c e h Q':=by
 intro c
 induction c with
 |skip=>intro e h Q Q' hq hw;exact hq _ _ _ hw
 |region id ops d =>
  intro e h Q Q' hq hw
  cases d with
  |false=>exact dc.mono _ _ _ _ _ (hq _) hw
  |true=>exact cj.mono _ _ _ _ _ _ (λks e h hh=>⟨hh.1,hq _ _ _ hh.2⟩) hw
 |seq a b jh ji =>
  intro e h Q Q' hq hw
  simp only [W] at hw ⊢
  refine jh _ _ _ _ ?_ hw
  intro x e' h'
  cases x with
  |normal=>exact ji _ _ _ _ hq
  |exit id=>exact hq _ _ _
  |ret=>exact hq _ _ _
 |cond c a b jh ji =>
  intro e h Q Q' hq hw
  simp only [W,Ff] at hw ⊢
  split at hw
  .exact ⟨λht=>jh _ _ _ _ hq (hw.1 ht),λht=>ji _ _ _ _ hq (hw.2 ht)⟩
  .exact hw.elim
 |block id c ih =>
  intro e h Q Q' hq hw
  simp only [W] at hw ⊢
  refine ih _ _ _ _ ?_ hw
  intro x e' h'
  cases x with
  |normal=>exact hq _ _ _
  |exit i =>
   intro hh
   by_cases hi:i=id
   .simp only [aB hi] at hh ⊢;exact hq _ _ _ hh
   .simp only [aA hi] at hh ⊢;exact hq _ _ _ hh
  |ret=>exact hq _ _ _
 |loop c ih =>
  intro e h Q Q' hq hw
  simp only [W] at hw ⊢
  obtain ⟨n,hw⟩:=hw
  exact ⟨n,dM.mono ih hq n e h hw⟩
 |exit id=>intro e h Q Q' hq hw;exact hq _ _ _ hw
 |ret=>intro e h Q Q' hq hw;exact hq _ _ _ hw
 |label l=>intro e h Q Q' hq hw;exact hq _ _ _ hw
 |rangeFunc g ps a b _ _ =>
  intro e h Q Q' hq hw
  simp only [W,GZ] at hw ⊢
  split at hw
  .refine ⟨hw.1,hw.2.mono λv h2 hh=>?_⟩
   unfold Mx at hh ⊢
   split at hh
   .exact hq _ _ _ hh
   .exact hh.elim
  .exact hw.elim
 |scope c ih=>intro e h Q Q' hq hw;exact ih _ _ _ _ hq hw
 |goto l=>intro e h Q Q' hq hw;exact hw.elim
 |refuse s=>intro e h Q Q' hq hw;exact hw.elim

theorem nX.mono:∀ (pre:List Code) (e:Env) (h:Heap) (Q Q':Env->Heap->Prop),(∀ e h,Q e h->Q' e h)->nX P T ov pre e h Q->nX P T ov pre e h Q'
 | [],e,h,_,_,hq,hw=>hq e h hw
 |c::cs,_,_,Q,Q',hq,hw=>W.mono c _ _ _ _ (λ_ e' h' ⟨h1,h2⟩=>⟨h1,nX.mono cs e' h' Q Q' hq h2⟩) hw
theorem W.J3 {e:Env} {h:Heap} (I:Env->Heap->Prop) (μ:Env->Heap->Nat) (h0:I e h)
 (round:∀ e h,I e h->W P T ov rd c e h λx e' h'=>match x with | .normal=>I e' h'/\μ e' h' < μ e h|x=>Q x e' h'):W P T ov rd (.loop c) e h Q:=W.loop I μ h0 round (W.mono c)
structure Hid (p:Prop):Prop where
 out:p
theorem zzm (p:Prop):Hid p=p:=propext ⟨Hid.out,Hid.mk⟩
section
variable (P:Program) (T:bN) (ov:Ov) (rd:Option Nat)
def uL (ops:Array Oper) (l:List Oper) (d:Option Tmp) (Q:Env->Heap->Prop) (e:Env):aO:=λv h'=>Hid (dc P T ov ops l (put e d v) h' Q)
def Pw (ops:Array Oper) (o:Oper) (l:List Oper) (e:Env) (h:Heap) (Q:Env->Heap->Prop) (b:Bool):Prop:=if b=true then cO P T ov o e h (uL P T ov ops l o.dst Q e) else dc P T ov ops l (put e o.dst undef) h Q
def EZ (a b:Code) (e:Env) (h:Heap) (Q:Ex->Env->Heap->Prop) (v:ai):Prop:=Ff v (W P T ov rd a e h Q) (W P T ov rd b e h Q)
def Co (b:Code) (Q:Ex->Env->Heap->Prop):Ex->Env->Heap->Prop
 | .normal,e',h'=>W P T ov rd b e' h' Q
 | .exit i,e',h'=>Q (.exit i) e' h'
 | .ret,e',h'=>Q .ret e' h'
def w8 (id:Nat) (Q:Ex->Env->Heap->Prop):Ex->Env->Heap->Prop
 | .normal,e',h'=>Q .normal e' h'
 | .exit i,e',h'=>if i=id then Q .normal e' h' else Q (.exit i) e' h'
 | .ret,e',h'=>Q .ret e' h'
def Py (Q:Ex->Env->Heap->Prop):Env->Heap->Prop:=Q .normal
def eu (fn:Func) (K:aO):Ex->Env->Heap->Prop:=λx e' h'=>(x=.ret\/x=.normal)/\∃ v,nc T fn e' h'=some v/\K v h'
def Ak (e:Env):List Operand->List ai
 | []=>[]
 |x::xs=>bE e x::Ak e xs
def O6 (o:Oper):Bool:=match o.op with
 | .call ⟨.value _,_,_⟩=>true
 | .call ⟨.invoke _ _,_,_⟩=>true
 |_=>false
def xg (args:List ai) (h:Heap) (K:aO) (v:ai):Prop:=match v with
 | .func (.func g) fi ca=>Ok P T ov g (fi.toList++args++ca.toList) h K
 | .func (.yield A) fi ca=>(fi.isEmpty && ca.isEmpty)=true/\Av P T ov (.yield A) args h K
 |_=>False
end

theorem OD (e:Env):∀ xs:List Operand,xs.map (bE e)=Ak e xs
 | []=>rfl
 |x::xs=>by rw [qG,Ak,OD e xs]
theorem zu0 (e:Env):Ak e []=[]:=rfl
theorem zsY (e:Env) (x:Operand) (xs:List Operand):Ak e (x::xs)=bE e x::Ak e xs:=rfl
theorem zwu (v:ai) (h:Heap) (K:aO):dz (some (v,h)) K=K v h:=rfl
theorem zxr (ops:Array Oper) (e:Env) (h:Heap) (Q:Env->Heap->Prop):dc P T ov ops [] e h Q=Q e h:=rfl
theorem znH (ops:Array Oper) (o:Oper) (l:List Oper) (e:Env) (h:Heap) (Q:Env->Heap->Prop):dc P T ov ops (o::l) e h Q=Pw P T ov ops o l e h Q (mI ops o e):=by
 simp only [dc,rM,Pw]
 split
 .exact propext ⟨cO.mono λ_ _ hw=>⟨hw⟩,cO.mono λ_ _ hw=>hw.out⟩
 .rfl
theorem zul (ops:Array Oper) (o:Oper) (l:List Oper) (e:Env) (h:Heap) (Q:Env->Heap->Prop):Pw P T ov ops o l e h Q true=cO P T ov o e h (uL P T ov ops l o.dst Q e):=rfl
theorem zq3 (ops:Array Oper) (o:Oper) (l:List Oper) (e:Env) (h:Heap) (Q:Env->Heap->Prop):Pw P T ov ops o l e h Q false=dc P T ov ops l (put e o.dst undef) h Q:=rfl
theorem zxn (ops:Array Oper) (l:List Oper) (d:Option Tmp) (Q:Env->Heap->Prop) (e:Env) (v:ai) (h:Heap):uL P T ov ops l d Q e v h=dc P T ov ops l (put e d v) h Q:=zzm _
theorem zxq {o:Oper} {e:Env} {h:Heap} (hc:O6 o=false):cO P T ov o e h K=dz (iq P T W3 e o h) K:=by
 unfold cO
 split
 .rename_i aP;simp [O6,aP] at hc
 .rename_i aP;simp [O6,aP] at hc
 .rfl
theorem zxp (d:Option Tmp) (f:Operand) (args:List Operand) (ia:Array TypeId) (ty:TypeId) (pos:String) (af:Array Edge) (g:Option (Nat × Bool)) (e:Env) (h:Heap) (K:aO) :
 cO P T ov ⟨d,.call ⟨.value f,⟨args⟩,ia⟩,ty,pos,af,g⟩ e h K=xg P T ov (Ak e args) h K (bE e f):=by
 rw [<- OD];rfl
theorem xN (g:FuncId) (args:List ai) (h:Heap) (K:aO):xg P T ov args h K (.func (.func g) #[] #[])=Ok P T ov g args h K:=by
 simp [xg]
theorem Eu (g:FuncId) (fi ca:Array ai) (args:List ai) (h:Heap) (K:aO):xg P T ov args h K (.func (.func g) fi ca)=Ok P T ov g (fi.toList++args++ca.toList) h K:=rfl
theorem zA4 (e:Env) (h:Heap) (Q:Ex->Env->Heap->Prop):W P T ov rd .skip e h Q=Q .normal e h:=rfl
theorem zxt (id:Nat) (ops:List Oper) (e:Env) (h:Heap) (Q:Ex->Env->Heap->Prop):W P T ov rd (.region id ⟨ops⟩ false) e h Q=dc P T ov ⟨ops⟩ ops e h (Py Q):=rfl
theorem zwc (Q:Ex->Env->Heap->Prop) (e:Env) (h:Heap):Py Q e h=Q .normal e h:=rfl
theorem zA3 (a b:Code) (e:Env) (h:Heap) (Q:Ex->Env->Heap->Prop):W P T ov rd (.seq a b) e h Q=W P T ov rd a e h (Co P T ov rd b Q):=by
 simp only [W]
 congr 1
 funext x e' h'
 cases x <;> rfl
theorem zuS (id:Nat) (c:Code) (e:Env) (h:Heap) (Q:Ex->Env->Heap->Prop):W P T ov rd (.block id c) e h Q=W P T ov rd c e h (w8 id Q):=by
 simp only [W]
 congr 1
 funext x e' h'
 cases x <;> rfl
theorem zA0 (c:Operand) (a b:Code) (e:Env) (h:Heap) (Q:Ex->Env->Heap->Prop):W P T ov rd (.cond c a b) e h Q=EZ P T ov rd a b e h Q (bE e c):=rfl
theorem ztk (a b:Code) (e:Env) (h:Heap) (Q:Ex->Env->Heap->Prop):EZ P T ov rd a b e h Q (.bool true)=W P T ov rd a e h Q:=by simp [EZ,Ff]
theorem zp9 (a b:Code) (e:Env) (h:Heap) (Q:Ex->Env->Heap->Prop):EZ P T ov rd a b e h Q (.bool false)=W P T ov rd b e h Q:=by simp [EZ,Ff]
theorem zA1 (id:Nat) (e:Env) (h:Heap) (Q:Ex->Env->Heap->Prop):W P T ov rd (.exit id) e h Q=Q (.exit id) e h:=rfl
theorem zBU (e:Env) (h:Heap) (Q:Ex->Env->Heap->Prop):W P T ov rd .ret e h Q=Q .ret e h:=rfl
theorem zzD (l:Nat) (e:Env) (h:Heap) (Q:Ex->Env->Heap->Prop):W P T ov rd (.label l) e h Q=Q .normal e h:=rfl
theorem zpp (b:Code) (Q:Ex->Env->Heap->Prop) (e:Env) (h:Heap):Co P T ov rd b Q .normal e h=W P T ov rd b e h Q:=rfl
theorem zus (b:Code) (Q:Ex->Env->Heap->Prop) (i:Nat) (e:Env) (h:Heap):Co P T ov rd b Q (.exit i) e h=Q (.exit i) e h:=rfl
theorem zw6 (b:Code) (Q:Ex->Env->Heap->Prop) (e:Env) (h:Heap):Co P T ov rd b Q .ret e h=Q .ret e h:=rfl
theorem zma (id:Nat) (Q:Ex->Env->Heap->Prop) (e:Env) (h:Heap):w8 id Q .normal e h=Q .normal e h:=rfl
theorem zp2 (id:Nat) (Q:Ex->Env->Heap->Prop) (e:Env) (h:Heap):w8 id Q (.exit id) e h=Q .normal e h:=by simp [w8]
theorem zkH (id i:Nat) (Q:Ex->Env->Heap->Prop) (e:Env) (h:Heap) (hi:(i == id)=false):w8 id Q (.exit i) e h=Q (.exit i) e h:=by
 have:i≠id:=by simpa using hi
 simp [w8,this]
theorem zs7 (id:Nat) (Q:Ex->Env->Heap->Prop) (e:Env) (h:Heap):w8 id Q .ret e h=Q .ret e h:=rfl
theorem Ok.Ui {fn:Func} {h:Heap} (ho:ov f=none) (hf:T.fn f=some fn) (hc:fn.body=some c) (yH:T.HZ f=false) {m:Nat} (hm:fn.ntmps - args.length=m)
 (hw:W P T ov none c (args++List.replicate m undef) h (eu T fn K)):Ok P T ov f args h K:=Ok.enter ho hf hc yH (by rw [hm];exact hw)
def Pp (I:Env->Heap->Prop) (μ:Env->Heap->Nat) (e:Env) (h:Heap) (Q:Ex->Env->Heap->Prop):Ex->Env->Heap->Prop
 | .normal,e',h'=>I e' h'/\μ e' h' < μ e h
 | .exit i,e',h'=>Q (.exit i) e' h'
 | .ret,e',h'=>Q .ret e' h'
theorem ztJ (I:Env->Heap->Prop) (μ:Env->Heap->Nat) (e:Env) (h:Heap) (Q:Ex->Env->Heap->Prop) (i:Nat) (e':Env) (h':Heap):Pp I μ e h Q (.exit i) e' h'=Q (.exit i) e' h':=rfl
theorem zv3 (I:Env->Heap->Prop) (μ:Env->Heap->Nat) (e:Env) (h:Heap) (Q:Ex->Env->Heap->Prop) (e':Env) (h':Heap):Pp I μ e h Q .ret e' h'=Q .ret e' h':=rfl
theorem zoG {I:Env->Heap->Prop} {μ:Env->Heap->Nat} {e:Env} {h:Heap} {e':Env} {h':Heap} (h1:I e' h') (h2:μ e' h' < μ e h):Pp I μ e h Q .normal e' h':=⟨h1,h2⟩
theorem zA2 {e:Env} {h:Heap} (I:Env->Heap->Prop) (μ:Env->Heap->Nat) (h0:I e h) (round:∀ e h,I e h->W P T ov rd c e h (Pp I μ e h Q)):W P T ov rd (.loop c) e h Q :=
 W.J3 I μ h0 λe h hI=>W.mono c e h _ _ (λx e' h' hh=>by cases x <;> exact hh) (round e h hI)

section
variable (C:Fn->List ai->Heap->Option (ai × Heap)) (d:Option Tmp) (ty:TypeId) (pos:String) (af:Array Edge) (g:Option (Nat × Bool)) (e:Env) (h:Heap)
def zCC (c a b:ai) (h:Heap):Option (ai × Heap):=match c with | .bool t=>some (if t then a else b,h)|_=>none
def Uv (v:ai) (h:Heap):Option (ai × Heap):=match v with
 | .pointer (some a)=>some (.pointer (some a),h)
 | .func (.func f) a b=>some (.func (.func f) a b,h)
 | .iface t a=>some (.iface t a,h)
 |_=>none
def UX (v:ai) (i:Nat) (h:Heap):Option (ai × Heap):=match v with | .tuple vs=>(vs[i]?).map λr=>(r,h)|_=>none
end
theorem zxj (ops:Array Oper) (d:Option Tmp) (op:Op) (ty:TypeId) (pos:String) (af:Array Edge) (e:Env):mI ops ⟨d,op,ty,pos,af,none⟩ e=true:=rfl
def Ah (v:ai) (b:Bool):Bool:=match v with | .bool c=>c == b|_=>false

theorem BU {op:BinOp} {t:TypeId} {k:IntKind} {a b:Int} {v:ai} (hv:qy op (.int k a) (.int k b)=some v):cE P T op t (.int k a) (.int k b)=some v:=by simp [cE,hv]
section
variable (t:TypeId) (k:IntKind) (a b:Int)
theorem zzG:cE P T .add t (.int k a) (.int k b)=some (.int k (k.wrap (a+b))):=BU (by simp [qy])
theorem zzQ:cE P T .sub t (.int k a) (.int k b)=some (.int k (k.wrap (a - b))):=BU (by simp [qy])
theorem zzH:cE P T .eql t (.int k a) (.int k b)=some (.bool (a == b)):=BU (by simp [qy])
theorem zzM:cE P T .neq t (.int k a) (.int k b)=some (.bool (a != b)):=BU (by simp [qy])
theorem zzL:cE P T .lss t (.int k a) (.int k b)=some (.bool (a < b)):=BU (by simp [qy])
theorem zzK:cE P T .leq t (.int k a) (.int k b)=some (.bool (a<=b)):=BU (by simp [qy])
theorem zzJ:cE P T .gtr t (.int k a) (.int k b)=some (.bool (a > b)):=BU (by simp [qy])
theorem zzI:cE P T .geq t (.int k a) (.int k b)=some (.bool (a >= b)):=BU (by simp [qy])
end

end
end Go.Am
