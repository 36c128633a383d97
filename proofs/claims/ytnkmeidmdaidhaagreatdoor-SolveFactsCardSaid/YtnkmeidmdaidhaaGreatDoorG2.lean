/- More fuel changes nothing. No condition. -/
import Derived.Test.YtnkmeidmdaidhaaGreatDoorG1
set_option linter.unusedSimpArgs false
namespace Go.Am
variable {r:ai × Heap} {h:Heap} {E E':Code->Env->Heap->Option (Ex × Env × Heap)}

def BH (C C':Fn->List ai->Heap->Option (ai × Heap)):Prop:=∀ f args h r,C f args h=some r->C' f args h=some r
def Zw (D D':Array Oper->Env->Heap->Option (Env × Heap)):Prop:=∀ ops e h r,D ops e h=some r->D' ops e h=some r

section
variable {P:Program} {T:bJ} {C C':Fn->List ai->Heap->Option (ai × Heap)}

theorem Hg (hC:BH C C') {e:Env} {o:Oper} (aj:gD P T C e o h=some r):gD P T C' e o h=some r:=by
 obtain ⟨dst,op,ty,pos,after,guard⟩:=o
 cases op <;> simp only [gD] at aj ⊢ <;> try exact aj
 case call c =>
  obtain ⟨callee,args,iq⟩:=c
  cases callee with
  |value f =>
   simp only at aj ⊢
   split at aj
   .exact hC _ _ _ _ aj
   .split at aj
    .rename_i hc;rw [aD hc];exact hC _ _ _ _ aj
    .cases aj
   .cases aj
  |invoke rv m =>
   simp only at aj ⊢
   split at aj
   .simp only [cG,Prod.exists] at aj ⊢
    obtain ⟨f,y,hm,aj⟩:=aj
    exact ⟨f,y,hm,hC _ _ _ _ aj⟩
   .cases aj
  |builtin b=>cases b <;> exact aj

theorem PA (hC:BH C C') {ops:Array Oper}:∀ (l:List Oper) (e:Env) (h:Heap) (r:Env × Heap),r7 P T C ops l e h=some r->r7 P T C' ops l e h=some r
 | [],_,_,_,aj=>aj
 |o::l,e,h,r,aj=>by
  simp only [r7] at aj ⊢
  split at aj
  .rename_i hw
   rw [aD hw]
   split at aj
   .rename_i v h1 h2
    rw [Hg hC h2]
    exact PA hC l _ _ _ aj
   .cases aj
  .rename_i hw
   rw [az hw]
   exact PA hC l _ _ _ aj

theorem PK (hC:BH C C') {ops:Array Oper}:∀ (l:List Oper) (e:Env) (h:Heap) (r:List Nat × Env × Heap),qX P T C ops l e h=some r->qX P T C' ops l e h=some r
 | [],_,_,_,aj=>aj
 |o::l,e,h,r,aj=>by
  simp only [qX] at aj ⊢
  split at aj
  .rename_i hw
   rw [aD hw]
   split at aj
   .rename_i v h1 h2
    rw [Hg hC h2]
    simp only [ct,Prod.exists] at aj ⊢
    obtain ⟨ks,x1,x2,hr,rfl⟩:=aj
    exact ⟨ks,x1,x2,PK hC l _ _ _ hr,rfl⟩
   .cases aj
  .rename_i hw
   rw [az hw]
   simp only [ct,Prod.exists] at aj ⊢
   obtain ⟨ks,x1,x2,hr,rfl⟩:=aj
   exact ⟨ks,x1,x2,PK hC l _ _ _ hr,rfl⟩

theorem Bg (hC:BH C C'):Zw (pP P T C) (pP P T C'):=by
 intro ops e h r aj
 unfold pP at aj ⊢
 split at aj
 .rename_i hr
  rw [PK hC _ _ _ _ hr]
  exact aj
 .cases aj

theorem Yf {f f':Env->Heap->Option (Ex × Env × Heap)} (hf:∀ e h r,f e h=some r->f' e h=some r):∀ (n m:Nat) (e:Env) (h:Heap) (r:Ex × Env × Heap),n<=m->iter f n e h=some r->iter f' m e h=some r
 |0,_,_,_,_,_,hi=>by simp [iter] at hi
 |n+1,0,_,_,_,hle,_=>by omega
 |n+1,m+1,e,h,r,hle,hi=>by
  simp only [iter] at hi ⊢
  split at hi
  .rename_i e1 h1 h2
   rw [hf _ _ _ h2]
   exact Yf hf n m _ _ _ (by omega) hi
  .rename_i aM
   rw [hf _ _ _ hi]
   obtain ⟨x,e1,h1⟩:=r
   cases x with
   |normal=>exact (aM _ _ hi).elim
   |exit id=>rfl
   |ret=>rfl

theorem Bf (hC:BH C C') {D D':Array Oper->Env->Heap->Option (Env × Heap)} (hD:Zw D D') {n m:Nat} (qU:n<=m) (rd:Option Nat):∀ (c:Code) (e:Env) (h:Heap) (r:Ex × Env × Heap),dV P T C D rd n c e h=some r->dV P T C' D' rd m c e h=some r:=by
 intro c
 induction c with
 |skip=>intro e h r aj;exact aj
 |region id ops d =>
  intro e h r aj
  simp only [dV,ct,Prod.exists] at aj ⊢
  obtain ⟨e1,h1,hr,rfl⟩:=aj
  refine ⟨e1,h1,?_,rfl⟩
  cases d with
  |true=>simp only [if_true] at hr ⊢;exact hD _ _ _ _ hr
  |false=>simp only [gX,if_false] at hr ⊢;exact PA hC _ _ _ _ hr
 |seq a b jv jw =>
  intro e h r aj
  simp only [dV] at aj ⊢
  split at aj
  .rename_i e1 h1 h2
   rw [jv _ _ _ h2]
   exact jw _ _ _ aj
  .rename_i aM
   rw [jv _ _ _ aj]
   obtain ⟨x,e1,h1⟩:=r
   cases x with
   |normal=>exact (aM _ _ aj).elim
   |exit id=>rfl
   |ret=>rfl
 |cond c a b jv jw =>
  intro e h r aj
  simp only [dV] at aj ⊢
  split at aj
  .exact jv _ _ _ aj
  .exact jw _ _ _ aj
  .cases aj
 |block id c ih =>
  intro e h r aj
  simp only [dV] at aj ⊢
  split at aj
  .rename_i i e1 h1 h2
   rw [ih _ _ _ h2]
   exact aj
  .rename_i aM
   rw [ih _ _ _ aj]
   obtain ⟨x,e1,h1⟩:=r
   cases x with
   |normal=>rfl
   |exit id=>exact (aM _ _ _ aj).elim
   |ret=>rfl
 |loop c ih=>intro e h r aj;simp only [dV] at aj ⊢;exact Yf ih n m _ _ _ qU aj
 |exit id=>intro e h r aj;exact aj
 |ret=>intro e h r aj;exact aj
 |label l=>intro e h r aj;exact aj
 |rangeFunc f ps a b _ _ =>
  intro e h r aj
  simp only [dV,H7] at aj ⊢
  split at aj
  .split at aj
   .rename_i hc
    rw [aD hc]
    split at aj
    .rename_i hr;rw [hC _ _ _ _ hr];exact aj
    .cases aj
   .cases aj
  .cases aj
 |scope c ih=>intro e h r aj;exact ih _ _ _ aj
 |goto l=>intro e h r aj;simp [dV] at aj
 |refuse s=>intro e h r aj;simp [dV] at aj

theorem zrn (hE:∀ c e h r,E c e h=some r->E' c e h=some r) {A:Nat} {args:List ai} (aj:Dc E A args h=some r):Dc E' A args h=some r:=by
 unfold Dc at aj ⊢
 split at aj
 .split at aj
  .rename_i hc
   simp only [aD hc]
   split at aj
   .rename_i h1
    rw [hE _ _ _ _ h1]
    simp only
    split at aj
    .split at aj
     .rename_i h2;rw [hE _ _ _ _ h2];exact aj
     .rename_i h2;rw [hE _ _ _ _ h2];exact aj
     .rename_i h2;rw [hE _ _ _ _ h2];exact aj
     .cases aj
    .cases aj
   .cases aj
  .cases aj
 .cases aj

theorem Xs {E E':Code->Env->Heap->Option (Ex × Env × Heap)} (hE:∀ c e h r,E c e h=some r->E' c e h=some r):∀ (pre:List Code) (e:Env) (h:Heap) (r:Env × Heap),ux E pre e h=some r->ux E' pre e h=some r
 | [],_,_,_,aj=>aj
 |c::cs,e,h,r,aj=>by
  simp only [ux] at aj ⊢
  split at aj
  .rename_i hr
   rw [hE _ _ _ _ hr]
   exact Xs hE cs _ _ _ aj
  .cases aj
theorem zjF (hE:∀ c e h r,E c e h=some r->E' c e h=some r) {fn:Func} {g:ai} {e3:Env} {h3:Heap} (aj:uF T E fn g e3 h3=some r):uF T E' fn g e3 h3=some r:=by
 unfold uF at aj ⊢
 split at aj
 .simp only [cG] at aj ⊢
  obtain ⟨fg,h1,cg,h2,aj⟩:=aj
  refine ⟨fg,h1,cg,h2,?_⟩
  split at aj
  .rename_i hn
   rw [aD hn]
   split at aj
   .rename_i hr
    rw [hE _ _ _ _ hr]
    exact aj
   .rename_i hr
    rw [hE _ _ _ _ hr]
    exact aj
   .cases aj
  .cases aj
 .cases aj
theorem zqG {C C':Fn->List ai->Heap->Option (ai × Heap)} (hC:BH C C') (hE:∀ c e h r,E c e h=some r->E' c e h=some r) {fn:Func} {c:Code} {e:Env} (aj:C9 P T E C fn c e h=some r):C9 P T E' C' fn c e h=some r:=by
 unfold C9 at aj ⊢
 simp only [cG,Prod.exists] at aj ⊢
 obtain ⟨pre,m,t,rest,dD,aj⟩:=aj
 refine ⟨pre,m,t,rest,dD,?_⟩
 split at aj
 .rename_i hn
  rw [aD hn]
  simp only [cG,Prod.exists] at aj ⊢
  obtain ⟨e1,h1,hp,v1,h2,ho,aj⟩:=aj
  refine ⟨e1,h1,Xs hE _ _ _ _ hp,v1,h2,Hg hC ho,?_⟩
  split at aj
  .rename_i hr
   rw [hE _ _ _ _ hr]
   exact zjF hE aj
  .rename_i hr
   rw [hE _ _ _ _ hr]
   exact zjF hE aj
  .cases aj
 .cases aj
theorem rZ {ov:Ov}:∀ (n m:Nat),n<=m->BH (call P T ov n) (call P T ov m)
 |0,_,_=>by intro f args h r aj;simp [call] at aj
 |n+1,0,hle=>by omega
 |n+1,m+1,hle=>by
  intro f args h r aj
  have ih:=rZ (ov:=ov) n m (by omega)
  cases f with
  |func f =>
   simp only [call] at aj ⊢
   split at aj
   .exact aj
   .simp only [cG] at aj ⊢
    obtain ⟨fn,lf,c,hc,aj⟩:=aj
    refine ⟨fn,lf,c,hc,?_⟩
    split at aj
    .rename_i zP
     rw [aD zP]
     exact zqG ih (λc e h r hr=>Bf ih (Bg ih) (by omega) none c e h r hr) aj
    rename_i zP
    rw [az zP]
    split at aj
    .rename_i hr
     rw [Bf ih (Bg ih) (by omega) none _ _ _ _ hr]
     exact aj
    .rename_i hr
     rw [Bf ih (Bg ih) (by omega) none _ _ _ _ hr]
     exact aj
    .cases aj
  |yield A =>
   simp only [call] at aj ⊢
   exact zrn (λc e h r hr=>Bf ih (Bg ih) (by omega) (some A) c e h r hr) aj
  |_=>simp [call] at aj
end
end Go.Am
namespace Go.Am
variable {K:aJ} {args:List ai} {f:FuncId} {c:Code} {Q:Ex->Env->Heap->Prop}

structure Ext (h h':Heap):Prop where
 size:h.size<=h'.size
 get:∀ A,A < h.size->h'.get A=h.get A
 low:min h.low h.size<=h'.low

theorem Ext.refl (h:Heap):Ext h h:=⟨aR _,λ_ _=>rfl,yb _ _⟩
theorem Ext.trans {a b c:Heap} (h:Ext a b) (k:Ext b c):Ext a c :=
 ⟨eA h.size k.size,λA hA=>(k.get A (dr hA h.size)).trans (h.get A hA),by have:=h.low;have:=k.low;have:=h.size;omega⟩
theorem Ext.push (h:Heap) (b:aZ):Ext h (h.push b):=⟨nq _,λA hA=>by rw [Heap.bA,az (by omega)],by rw [Heap.eY];omega⟩
theorem Ext.set {h h':Heap} (e:Ext h h') {A:Nat} (hA:h.size<=A) (fk:A < h'.size) (b:aZ):Ext h (h'.set A b) :=
 ⟨e.size,λB hB=>by rw [Heap.aG _ _ _ _ fk,az (by omega)];exact e.get B hB,by rw [Heap.cM];have:=e.low;omega⟩

section
variable (P:Program) (T:bJ) (ov:Ov)

def BI (f:Fn) (args:List ai) (h:Heap) (K:aJ):Prop:=∃ n v h',call P T ov n f args h=some (v,h')/\K v h'
def Ok (f:FuncId) (args:List ai) (h:Heap) (K:aJ):Prop:=BI P T ov (.func f) args h K

def dv (r:Option (ai × Heap)) (K:aJ):Prop:=match r with
 |some (v,h')=>K v h'
 |none=>False
def Gm (v:ai) (A B:Prop):Prop:=match v with
 | .bool t=>(t=true->A)/\(t=false->B)
 |_=>False
def pR (b:Bool) (A B:Prop):Prop:=if b=true then A else B

def Y6:Fn->List ai->Heap->Option (ai × Heap):=λ_ _ _=>none

def cv (o:Oper) (e:Env) (h:Heap) (K:aJ):Prop :=
 match o.op with
 | .call ⟨.value f,args,_⟩=>match bz e f with
  | .func (.func g) fi ca=>Ok P T ov g (fi.toList++args.toList.map (bz e)++ca.toList) h K
  | .func (.yield A) fi ca=>(fi.isEmpty && ca.isEmpty)=true/\BI P T ov (.yield A) (args.toList.map (bz e)) h K
  |_=>False
 | .call ⟨.invoke r name,args,_⟩=>match bz e r with
  | .iface t x=>(match QD T t x name h with
   |some (f,y)=>Ok P T ov f (y::args.toList.map (bz e)) h K
   |none=>False)
  |_=>False
 |_=>dv (gD P T Y6 e o h) K

def di (ops:Array Oper):List Oper->Env->Heap->(Env->Heap->Prop)->Prop
 | [],e,h,Q=>Q e h
 |o::l,e,h,Q=>pR (ma ops o e) (cv P T ov o e h λv h'=>di ops l (put e o.dst v) h' Q) (di ops l (put e o.dst undef) h Q)

def bR (ops:Array Oper):List Oper->List Nat->Env->Heap->(List Nat->Env->Heap->Prop)->Prop
 | [],ks,e,h,Q=>Q ks e h
 |o::l,ks,e,h,Q =>
  pR (ma ops o e) (cv P T ov o e { h with low:=h.size } λv h' =>
   bR ops l (ks++[jH T o e h h']) (put e o.dst v) { h' with low:=min h.low h'.low } Q)
   (bR ops l (ks++[0]) (put e o.dst undef) h Q)

def dX (W:Env->Heap->(Ex->Env->Heap->Prop)->Prop) (Q:Ex->Env->Heap->Prop):Nat->Env->Heap->Prop
 |0,_,_=>False
 |n+1,e,h=>W e h fun
  | .normal,e',h'=>dX W Q n e' h'
  |x,e',h'=>Q x e' h'

def NY (r:Option (Ex × Env × Heap)) (Q:Ex->Env->Heap->Prop):Prop:=match r with
 |some (x,e,h)=>Q x e h
 |none=>False
def H8 (rd:Option Nat) (g:ai) (ps:List Tmp) (assign body:Code) (e:Env) (h:Heap) (Q:Ex->Env->Heap->Prop):Prop :=
 match g with
 | .func (.func f) fi ca=>(Yx rd h && YV T f)=true /\
  Ok P T ov f (fi.toList++[.func (.yield h.size) #[] #[]]++ca.toList) (h.push (.loop e ps assign body .ready none)) λ_ h2=>NY (Hx h.size e h2) Q
 |_=>False
def W (rd:Option Nat):Code->Env->Heap->(Ex->Env->Heap->Prop)->Prop
 | .skip,e,h,Q=>Q .normal e h
 | .region _ ops false,e,h,Q=>di P T ov ops ops.toList e h (Q .normal)
 | .region _ ops true,e,h,Q=>bR P T ov ops ops.toList [] e h λks e' h'=>Ga ops ks (mS ops.toList [])=true/\Q .normal e' h'
 | .seq a b,e,h,Q=>W rd a e h fun
  | .normal,e',h'=>W rd b e' h' Q
  |x,e',h'=>Q x e' h'
 | .cond c a b,e,h,Q=>Gm (bz e c) (W rd a e h Q) (W rd b e h Q)
 | .block id c,e,h,Q=>W rd c e h fun
  | .exit i,e',h'=>if i=id then Q .normal e' h' else Q (.exit i) e' h'
  |x,e',h'=>Q x e' h'
 | .loop c,e,h,Q=>∃ n,dX (W rd c) Q n e h
 | .exit id,e,h,Q=>Q (.exit id) e h
 | .ret,e,h,Q=>Q .ret e h
 | .label _,e,h,Q=>Q .normal e h
 | .scope c,e,h,Q=>W rd c e h Q
 | .rangeFunc g ps assign body,e,h,Q=>H8 P T ov rd (bz e g) ps.toList assign body e h Q
 |_,_,_,_=>False
end

section
variable {P:Program} {T:bJ} {ov:Ov} {rd:Option Nat}

theorem BI.mono {f:Fn} {h:Heap} {K':aJ} (hk:BI P T ov f args h K) (hm:∀ v h',K v h'->K' v h'):BI P T ov f args h K':=by
 obtain ⟨n,v,h',h1,h2⟩:=hk
 exact ⟨n,v,h',h1,hm v h' h2⟩
theorem Ok.mono {h:Heap} {K':aJ} (hk:Ok P T ov f args h K) (hm:∀ v h',K v h'->K' v h'):Ok P T ov f args h K':=by
 obtain ⟨n,v,h',h1,h2⟩:=hk
 exact ⟨n,v,h',h1,hm v h' h2⟩

theorem zuz (C:Fn->List ai->Heap->Option (ai × Heap)):BH Y6 C:=by intro f args h r hr;cases hr

theorem cv.sound {o:Oper} {e:Env} {h:Heap} (hw:cv P T ov o e h K):∃ n v h',gD P T (call P T ov n) e o h=some (v,h')/\K v h':=by
 unfold cv at hw
 split at hw
 .rename_i f args iq aQ
  split at hw
  .rename_i g fi ca hf
   obtain ⟨n,v,h',h1,h2⟩:=hw
   refine ⟨n,v,h',?_,h2⟩
   unfold gD
   simp only [aQ,hf]
   exact h1
  .rename_i A fi ca hf
   obtain ⟨hc,n,v,h',h1,h2⟩:=hw
   refine ⟨n,v,h',?_,h2⟩
   unfold gD
   simp only [aQ,hf]
   rw [aD hc]
   exact h1
  .exact hw.elim
 .rename_i r name args iq aQ
  split at hw
  .rename_i t x hr
   split at hw
   .rename_i f y hm
    obtain ⟨n,v,h',h1,h2⟩:=hw
    refine ⟨n,v,h',?_,h2⟩
    unfold gD
    simp only [aQ,hr,hm]
    exact h1
   .exact hw.elim
  .exact hw.elim
 .unfold dv at hw
  split at hw
  .rename_i v h' h1
   exact ⟨0,v,h',Hg (zuz _) h1,hw⟩
  .exact hw.elim

theorem di.sound {ops:Array Oper}:∀ (l:List Oper) (e:Env) (h:Heap) (Q:Env->Heap->Prop),di P T ov ops l e h Q->∃ n e' h',r7 P T (call P T ov n) ops l e h=some (e',h')/\Q e' h'
 | [],e,h,Q,hw=>⟨0,e,h,rfl,hw⟩
 |o::l,e,h,Q,hw=>by
  simp only [di,pR] at hw
  split at hw
  .rename_i fT
   obtain ⟨n,v,h1,h2,h3⟩:=cv.sound hw
   obtain ⟨m,e',h',h4,h5⟩:=di.sound l _ _ _ h3
   refine ⟨max n m,e',h',?_,h5⟩
   simp only [r7,fT,if_true]
   rw [Hg (rZ n (max n m) (zj _ _)) h2]
   exact PA (rZ m (max n m) (zg _ _)) _ _ _ _ h4
  .rename_i fT
   obtain ⟨m,e',h',h4,h5⟩:=di.sound l _ _ _ hw
   refine ⟨m,e',h',?_,h5⟩
   simp only [r7]
   rw [az fT]
   exact h4

theorem bR.sound {ops:Array Oper}:∀ (l:List Oper) (ks:List Nat) (e:Env) (h:Heap) (Q:List Nat->Env->Heap->Prop),bR P T ov ops l ks e h Q ->
 ∃ n dp e' h',qX P T (call P T ov n) ops l e h=some (dp,e',h')/\Q (ks++dp) e' h'
 | [],ks,e,h,Q,hw=>⟨0,[],e,h,rfl,by rw [bC];exact hw⟩
 |o::l,ks,e,h,Q,hw=>by
  simp only [bR,pR] at hw
  split at hw
  .rename_i fT
   obtain ⟨n,v,h1,h2,h3⟩:=cv.sound hw
   obtain ⟨m,dp,e',h',h4,h5⟩:=bR.sound l _ _ _ _ h3
   refine ⟨max n m,_::dp,e',h',?_,by rw [se] at h5;exact h5⟩
   simp only [qX,fT,if_true]
   rw [Hg (rZ n (max n m) (zj _ _)) h2]
   simp only [PK (rZ m (max n m) (zg _ _)) _ _ _ _ h4,lu]
  .rename_i fT
   obtain ⟨m,dp,e',h',h4,h5⟩:=bR.sound l _ _ _ _ hw
   refine ⟨m,0::dp,e',h',?_,by rw [se] at h5;exact h5⟩
   simp only [qX]
   rw [az fT,h4]
   rfl

theorem dX.mono {W:Env->Heap->(Ex->Env->Heap->Prop)->Prop} (hW:∀ e h Q Q',(∀ x e h,Q x e h->Q' x e h)->W e h Q->W e h Q') {Q Q':Ex->Env->Heap->Prop} (hq:∀ x e h,Q x e h->Q' x e h):∀ (n:Nat) (e:Env) (h:Heap),dX W Q n e h->dX W Q' n e h
 |0,_,_,hw=>hw
 |n+1,e,h,hw=>by
  simp only [dX] at hw ⊢
  refine hW _ _ _ _ ?_ hw
  intro x e' h'
  cases x with
  |normal=>exact dX.mono hW hq n e' h'
  |exit id=>exact hq _ _ _
  |ret=>exact hq _ _ _

theorem W.sound:∀ (c:Code) (e:Env) (h:Heap) (Q:Ex->Env->Heap->Prop),W P T ov rd c e h Q->∃ n x e' h',dV P T (call P T ov n) (pP P T (call P T ov n)) rd n c e h=some (x,e',h')/\Q x e' h':=by
 intro c
 have lift:∀ {n m:Nat} (c:Code) (e:Env) (h:Heap) (r:Ex × Env × Heap),n<=m->dV P T (call P T ov n) (pP P T (call P T ov n)) rd n c e h=some r->dV P T (call P T ov m) (pP P T (call P T ov m)) rd m c e h=some r :=
  λc e h r qU=>Bf (rZ _ _ qU) (Bg (rZ _ _ qU)) qU rd c e h r
 induction c with
 |skip=>intro e h Q hw;exact ⟨0,.normal,e,h,rfl,hw⟩
 |region id ops d =>
  intro e h Q hw
  cases d with
  |false =>
   simp only [W] at hw
   obtain ⟨n,e',h',h1,h2⟩:=di.sound _ _ _ _ hw
   exact ⟨n,.normal,e',h',by simp [dV,h1],h2⟩
  |true =>
   simp only [W] at hw
   obtain ⟨n,ks,e',h',h1,h2,h3⟩:=bR.sound _ _ _ _ _ hw
   rw [ya] at h2
   refine ⟨n,.normal,e',h',?_,h3⟩
   simp [dV,pP,h1,h2]
 |seq a b jv jw =>
  intro e h Q hw
  simp only [W] at hw
  obtain ⟨n,x,e1,h1,h2,h3⟩:=jv _ _ _ hw
  cases x with
  |normal =>
   obtain ⟨m,x,e2,h4,h5,h6⟩:=jw _ _ _ h3
   refine ⟨max n m,x,e2,h4,?_,h6⟩
   simp only [dV]
   rw [lift a e h _ (zj n m) h2]
   exact lift b _ _ _ (zg n m) h5
  |exit id=>exact ⟨n,.exit id,e1,h1,by simp only [dV];rw [h2],h3⟩
  |ret=>exact ⟨n,.ret,e1,h1,by simp only [dV];rw [h2],h3⟩
 |cond c a b jv jw =>
  intro e h Q hw
  simp only [W,Gm] at hw
  split at hw
  .rename_i t ht
   cases t with
   |true =>
    obtain ⟨n,x,e1,h1,h2,h3⟩:=jv _ _ _ (hw.1 rfl)
    exact ⟨n,x,e1,h1,by simp only [dV,ht];exact h2,h3⟩
   |false =>
    obtain ⟨n,x,e1,h1,h2,h3⟩:=jw _ _ _ (hw.2 rfl)
    exact ⟨n,x,e1,h1,by simp only [dV,ht];exact h2,h3⟩
  .exact hw.elim
 |block id c ih =>
  intro e h Q hw
  simp only [W] at hw
  obtain ⟨n,x,e1,h1,h2,h3⟩:=ih _ _ _ hw
  cases x with
  |normal=>exact ⟨n,.normal,e1,h1,by simp only [dV];rw [h2],h3⟩
  |exit i =>
   by_cases hi:i=id
   .exact ⟨n,.normal,e1,h1,by simp only [dV,h2,aD hi],by simpa only [aD hi] using h3⟩
   .exact ⟨n,.exit i,e1,h1,by simp only [dV,h2,az hi],by simpa only [az hi] using h3⟩
  |ret=>exact ⟨n,.ret,e1,h1,by simp only [dV];rw [h2],h3⟩
 |loop c ih =>
  intro e h Q hw
  simp only [W] at hw
  obtain ⟨k,hw⟩:=hw
  have key:∀ (k:Nat) (e:Env) (h:Heap),dX (W P T ov rd c) Q k e h->∃ n x e' h',iter (dV P T (call P T ov n) (pP P T (call P T ov n)) rd n c) n e h=some (x,e',h')/\Q x e' h':=by
   intro k
   induction k with
   |zero=>intro e h hw;exact hw.elim
   |succ k nf =>
    intro e h hw
    simp only [dX] at hw
    obtain ⟨n,x,e1,h1,h2,h3⟩:=ih _ _ _ hw
    cases x with
    |normal =>
     obtain ⟨m,x,e2,h4,h5,h6⟩:=nf _ _ h3
     refine ⟨max n m+1,x,e2,h4,?_,h6⟩
     simp only [iter]
     rw [lift c e h _ (show n<=max n m+1 by omega) h2]
     exact Yf (λe h r hr=>lift c e h r (show m<=max n m+1 by omega) hr) m (max n m) _ _ _ (zg _ _) h5
    |exit id=>exact ⟨n+1,.exit id,e1,h1,by simp only [iter];rw [lift c e h _ (nq n) h2],h3⟩
    |ret=>exact ⟨n+1,.ret,e1,h1,by simp only [iter];rw [lift c e h _ (nq n) h2],h3⟩
  obtain ⟨n,x,e',h',h1,h2⟩:=key k e h hw
  exact ⟨n,x,e',h',by simp only [dV];exact h1,h2⟩
 |exit id=>intro e h Q hw;exact ⟨0,.exit id,e,h,rfl,hw⟩
 |ret=>intro e h Q hw;exact ⟨0,.ret,e,h,rfl,hw⟩
 |label l=>intro e h Q hw;exact ⟨0,.normal,e,h,rfl,hw⟩
 |rangeFunc g ps a b _ _ =>
  intro e h Q hw
  simp only [W,H8] at hw
  split at hw
  .rename_i f fi ca hg
   obtain ⟨hc,n,v,h1,h2,h3⟩:=hw
   unfold NY at h3
   split at h3
   .rename_i x e' h' h4
    refine ⟨n,x,e',h',?_,h3⟩
    simp only [dV,H7,hg]
    rw [aD hc,h2]
    exact h4
   .exact h3.elim
  .exact hw.elim
 |scope c ih=>intro e h Q hw;exact ih _ _ _ hw
 |goto l=>intro e h Q hw;exact hw.elim
 |refuse s=>intro e h Q hw;exact hw.elim

theorem Ok.enter {fn:Func} {h:Heap} (ho:ov f=none) (hf:T.fn f=some fn) (hc:fn.body=some c) (zP:T.Jy f=false)
 (hw:W P T ov none c (args++List.replicate (fn.ntmps - args.length) undef) h λx e' h'=>(x=.ret\/x=.normal)/\∃ v,nI T fn e' h'=some v/\K v h'):Ok P T ov f args h K:=by
 obtain ⟨n,x,e',h',h1,hx,v,h2,h3⟩:=W.sound _ _ _ _ hw
 refine ⟨n+1,v,h',?_,h3⟩
 simp only [call,ho,hf,hc,dO,h1,zP,gX,if_false]
 rcases hx with rfl|rfl <;> simp [h2]

def oK (P:Program) (T:bJ) (ov:Ov):List Code->Env->Heap->(Env->Heap->Prop)->Prop
 | [],e,h,Q=>Q e h
 |c::cs,e,h,Q=>W P T ov none c e h λx e' h'=>x=.normal/\oK P T ov cs e' h' Q
theorem oK.sound:∀ (pre:List Code) (e:Env) (h:Heap) (Q:Env->Heap->Prop),oK P T ov pre e h Q->∃ n e' h',ux (dV P T (call P T ov n) (pP P T (call P T ov n)) none n) pre e h=some (e',h')/\Q e' h'
 | [],e,h,Q,hw=>⟨0,e,h,rfl,hw⟩
 |c::cs,e,h,Q,hw=>by
  simp only [oK] at hw
  obtain ⟨n,x,e1,h1,r1,rfl,hw⟩:=W.sound _ _ _ _ hw
  obtain ⟨k,e2,h2,r2,hq⟩:=oK.sound cs e1 h1 Q hw
  refine ⟨max n k,e2,h2,?_,hq⟩
  simp only [ux]
  rw [Bf (rZ _ _ (zj n k)) (Bg (rZ _ _ (zj n k))) (zj n k) none _ _ _ _ r1]
  exact Xs (λc e h r=>Bf (rZ _ _ (zg n k)) (Bg (rZ _ _ (zg n k))) (zg n k) none c e h r) _ _ _ _ r2

theorem BI.round {A:Nat} {env:List ai} {ps:List Tmp} {assign body:Code} {st:LoopState} {fM:Option Code} {h:Heap} (hg:h.get A=some (.loop env ps assign body st fM)) (hl:args.length=ps.length)
 (hw:W P T ov (some A) assign (i3 env ps args) h λx e1 h1=>x=.normal/\∃ rF Fm Rx Rz kq,h1.get A=some (.loop rF Fm Rx Rz .ready kq) /\
  W P T ov (some A) body e1 (h1.set A (.loop rF Fm Rx Rz .busy kq)) λx _ h2=>dv (CN A (match x with | .normal=>none | .ret=>some .ret | .exit id=>some (.exit id)) h2) K):BI P T ov (.yield A) args h K:=by
 obtain ⟨n,x,e1,h1,r1,rfl,rF,Fm,Rx,Rz,kq,r2,hw⟩:=W.sound _ _ _ _ hw
 obtain ⟨m,x,e2,h2,r3,hk⟩:=W.sound _ _ _ _ hw
 unfold dv at hk
 split at hk
 .rename_i v h' r4
  refine ⟨max n m+1,v,h',?_,hk⟩
  have l1:=Bf (P:=P) (T:=T) (rZ (ov:=ov) n (max n m) (zj _ _)) (Bg (rZ n (max n m) (zj _ _))) (zj n m) (some A) _ _ _ _ r1
  have l2:=Bf (P:=P) (T:=T) (rZ (ov:=ov) m (max n m) (zg _ _)) (Bg (rZ m (max n m) (zg _ _))) (zg n m) (some A) _ _ _ _ r3
  simp only [call,Dc,hg,hl,if_true,l1,r2,l2]
  cases x <;> exact r4
 .exact hk.elim

theorem Ok.over {g:List ai->Heap->Option (ai × Heap)} {h h':Heap} {v:ai} (ho:ov f=some g) (hg:g args h=some (v,h')) (hk:K v h'):Ok P T ov f args h K :=
 ⟨1,v,h',by simp [call,ho,hg],hk⟩

theorem W.loop {c:Code} {e:Env} {h:Heap} {Q:Ex->Env->Heap->Prop} (I:Env->Heap->Prop) (μ:Env->Heap->Nat) (h0:I e h)
 (round:∀ e h,I e h->W P T ov rd c e h λx e' h'=>match x with | .normal=>I e' h'/\μ e' h' < μ e h|x=>Q x e' h') (hm:∀ e h Q Q',(∀ x e h,Q x e h->Q' x e h)->W P T ov rd c e h Q->W P T ov rd c e h Q'):W P T ov rd (.loop c) e h Q:=by
 have key:∀ (n:Nat) (e:Env) (h:Heap),μ e h < n->I e h->dX (W P T ov rd c) Q n e h:=by
  intro n
  induction n with
  |zero=>intro e h hn;omega
  |succ n ih =>
   intro e h hn hI
   simp only [dX]
   refine hm _ _ _ _ ?_ (round e h hI)
   intro x e' h'
   cases x with
   |normal=>exact λhh=>ih e' h' (by omega) hh.1
   |exit i=>exact λhh=>hh
   |ret=>exact λhh=>hh
 exact ⟨μ e h+1,key _ e h (ri _) h0⟩

theorem cv.mono {o:Oper} {e:Env} {h:Heap} {K K':aJ} (hk:∀ v h',K v h'->K' v h') (hw:cv P T ov o e h K):cv P T ov o e h K':=by
 unfold cv at hw ⊢
 split at hw
 .split at hw
  .exact hw.mono hk
  .exact ⟨hw.1,hw.2.mono hk⟩
  .exact hw.elim
 .split at hw
  .split at hw
   .exact hw.mono hk
   .exact hw.elim
  .exact hw.elim
 .unfold dv at hw ⊢
  split at hw
  .rename_i v h' h1;exact hk v h' hw
  .exact hw.elim
theorem di.mono {ops:Array Oper}:∀ (l:List Oper) (e:Env) (h:Heap) (Q Q':Env->Heap->Prop),(∀ e h,Q e h->Q' e h)->di P T ov ops l e h Q->di P T ov ops l e h Q'
 | [],_,_,_,_,hq,hw=>hq _ _ hw
 |o::l,e,h,Q,Q',hq,hw=>by
  simp only [di,pR] at hw ⊢
  split at hw
  .rename_i fT;rw [aD fT];exact cv.mono (λv h'=>di.mono l _ _ _ _ hq) hw
  .rename_i fT;rw [az fT];exact di.mono l _ _ _ _ hq hw
theorem bR.mono {ops:Array Oper}:∀ (l:List Oper) (ks:List Nat) (e:Env) (h:Heap) (Q Q':List Nat->Env->Heap->Prop),(∀ ks e h,Q ks e h->Q' ks e h)->bR P T ov ops l ks e h Q->bR P T ov ops l ks e h Q'
 | [],_,_,_,_,_,hq,hw=>hq _ _ _ hw
 |o::l,ks,e,h,Q,Q',hq,hw=>by
  simp only [bR,pR] at hw ⊢
  split at hw
  .rename_i fT;rw [aD fT];exact cv.mono (λv h'=>bR.mono l _ _ _ _ _ hq) hw
  .rename_i fT;rw [az fT];exact bR.mono l _ _ _ _ _ hq hw
theorem W.mono:∀ (c:Code) (e:Env) (h:Heap) (Q Q':Ex->Env->Heap->Prop),(∀ x e h,Q x e h->Q' x e h)->W P T ov rd c e h Q->W P T ov rd c e h Q':=by
 intro c
 induction c with
 |skip=>intro e h Q Q' hq hw;exact hq _ _ _ hw
 |region id ops d =>
  intro e h Q Q' hq hw
  cases d with
  |false=>exact di.mono _ _ _ _ _ (hq _) hw
  |true=>exact bR.mono _ _ _ _ _ _ (λks e h hh=>⟨hh.1,hq _ _ _ hh.2⟩) hw
 |seq a b jv jw =>
  intro e h Q Q' hq hw
  simp only [W] at hw ⊢
  refine jv _ _ _ _ ?_ hw
  intro x e' h'
  cases x with
  |normal=>exact jw _ _ _ _ hq
  |exit id=>exact hq _ _ _
  |ret=>exact hq _ _ _
 |cond c a b jv jw =>
  intro e h Q Q' hq hw
  simp only [W,Gm] at hw ⊢
  split at hw
  .exact ⟨λht=>jv _ _ _ _ hq (hw.1 ht),λht=>jw _ _ _ _ hq (hw.2 ht)⟩
  .exact hw.elim
 |block id c ih =>
  intro e h Q Q' hq hw
  simp only [W] at hw ⊢
  refine ih _ _ _ _ ?_ hw
  intro x e' h'
  cases x with
  |normal=>exact hq _ _ _
  |exit i =>
   intro hh
   by_cases hi:i=id
   .simp only [aD hi] at hh ⊢;exact hq _ _ _ hh
   .simp only [az hi] at hh ⊢;exact hq _ _ _ hh
  |ret=>exact hq _ _ _
 |loop c ih =>
  intro e h Q Q' hq hw
  simp only [W] at hw ⊢
  obtain ⟨n,hw⟩:=hw
  exact ⟨n,dX.mono ih hq n e h hw⟩
 |exit id=>intro e h Q Q' hq hw;exact hq _ _ _ hw
 |ret=>intro e h Q Q' hq hw;exact hq _ _ _ hw
 |label l=>intro e h Q Q' hq hw;exact hq _ _ _ hw
 |rangeFunc g ps a b _ _ =>
  intro e h Q Q' hq hw
  simp only [W,H8] at hw ⊢
  split at hw
  .refine ⟨hw.1,hw.2.mono λv h2 hh=>?_⟩
   unfold NY at hh ⊢
   split at hh
   .exact hq _ _ _ hh
   .exact hh.elim
  .exact hw.elim
 |scope c ih=>intro e h Q Q' hq hw;exact ih _ _ _ _ hq hw
 |goto l=>intro e h Q Q' hq hw;exact hw.elim
 |refuse s=>intro e h Q Q' hq hw;exact hw.elim

theorem oK.mono:∀ (pre:List Code) (e:Env) (h:Heap) (Q Q':Env->Heap->Prop),(∀ e h,Q e h->Q' e h)->oK P T ov pre e h Q->oK P T ov pre e h Q'
 | [],e,h,_,_,hq,hw=>hq e h hw
 |c::cs,_,_,Q,Q',hq,hw=>W.mono c _ _ _ _ (λ_ e' h' ⟨h1,h2⟩=>⟨h1,oK.mono cs e' h' Q Q' hq h2⟩) hw
theorem W.Lk {e:Env} {h:Heap} (I:Env->Heap->Prop) (μ:Env->Heap->Nat) (h0:I e h)
 (round:∀ e h,I e h->W P T ov rd c e h λx e' h'=>match x with | .normal=>I e' h'/\μ e' h' < μ e h|x=>Q x e' h'):W P T ov rd (.loop c) e h Q:=W.loop I μ h0 round (W.mono c)
structure Hid (p:Prop):Prop where
 out:p
theorem Zh (p:Prop):Hid p=p:=propext ⟨Hid.out,Hid.mk⟩
section
variable (P:Program) (T:bJ) (ov:Ov) (rd:Option Nat)
def vD (ops:Array Oper) (l:List Oper) (d:Option Tmp) (Q:Env->Heap->Prop) (e:Env):aJ:=λv h'=>Hid (di P T ov ops l (put e d v) h' Q)
def Q4 (ops:Array Oper) (o:Oper) (l:List Oper) (e:Env) (h:Heap) (Q:Env->Heap->Prop) (b:Bool):Prop:=if b=true then cv P T ov o e h (vD P T ov ops l o.dst Q e) else di P T ov ops l (put e o.dst undef) h Q
def Gb (a b:Code) (e:Env) (h:Heap) (Q:Ex->Env->Heap->Prop) (v:ai):Prop:=Gm v (W P T ov rd a e h Q) (W P T ov rd b e h Q)
def Dm (b:Code) (Q:Ex->Env->Heap->Prop):Ex->Env->Heap->Prop
 | .normal,e',h'=>W P T ov rd b e' h' Q
 | .exit i,e',h'=>Q (.exit i) e' h'
 | .ret,e',h'=>Q .ret e' h'
def xS (id:Nat) (Q:Ex->Env->Heap->Prop):Ex->Env->Heap->Prop
 | .normal,e',h'=>Q .normal e' h'
 | .exit i,e',h'=>if i=id then Q .normal e' h' else Q (.exit i) e' h'
 | .ret,e',h'=>Q .ret e' h'
def Q6 (Q:Ex->Env->Heap->Prop):Env->Heap->Prop:=Q .normal
def zDr (ops:Array Oper) (Q:Ex->Env->Heap->Prop):List Nat->Env->Heap->Prop:=λks e' h'=>Ga ops ks (mS ops.toList [])=true/\Q .normal e' h'
def eI (fn:Func) (K:aJ):Ex->Env->Heap->Prop:=λx e' h'=>(x=.ret\/x=.normal)/\∃ v,nI T fn e' h'=some v/\K v h'
def BD (e:Env):List Operand->List ai
 | []=>[]
 |x::xs=>bz e x::BD e xs
def QA (o:Oper):Bool:=match o.op with
 | .call ⟨.value _,_,_⟩=>true
 | .call ⟨.invoke _ _,_,_⟩=>true
 |_=>false
def xW (args:List ai) (h:Heap) (K:aJ) (v:ai):Prop:=match v with
 | .func (.func g) fi ca=>Ok P T ov g (fi.toList++args++ca.toList) h K
 | .func (.yield A) fi ca=>(fi.isEmpty && ca.isEmpty)=true/\BI P T ov (.yield A) args h K
 |_=>False
end

theorem Qi (e:Env):∀ xs:List Operand,xs.map (bz e)=BD e xs
 | []=>rfl
 |x::xs=>by rw [qO,BD,Qi e xs]
theorem zvP (e:Env):BD e []=[]:=rfl
theorem ztF (e:Env) (x:Operand) (xs:List Operand):BD e (x::xs)=bz e x::BD e xs:=rfl
theorem zxw (v:ai) (h:Heap) (K:aJ):dv (some (v,h)) K=K v h:=rfl
theorem zyq (ops:Array Oper) (e:Env) (h:Heap) (Q:Env->Heap->Prop):di P T ov ops [] e h Q=Q e h:=rfl
theorem znX (ops:Array Oper) (o:Oper) (l:List Oper) (e:Env) (h:Heap) (Q:Env->Heap->Prop):di P T ov ops (o::l) e h Q=Q4 P T ov ops o l e h Q (ma ops o e):=by
 simp only [di,pR,Q4]
 split
 .exact propext ⟨cv.mono λ_ _ hw=>⟨hw⟩,cv.mono λ_ _ hw=>hw.out⟩
 .rfl
theorem zvb (ops:Array Oper) (o:Oper) (l:List Oper) (e:Env) (h:Heap) (Q:Env->Heap->Prop):Q4 P T ov ops o l e h Q true=cv P T ov o e h (vD P T ov ops l o.dst Q e):=rfl
theorem zrB (ops:Array Oper) (o:Oper) (l:List Oper) (e:Env) (h:Heap) (Q:Env->Heap->Prop):Q4 P T ov ops o l e h Q false=di P T ov ops l (put e o.dst undef) h Q:=rfl
theorem zyn (ops:Array Oper) (l:List Oper) (d:Option Tmp) (Q:Env->Heap->Prop) (e:Env) (v:ai) (h:Heap):vD P T ov ops l d Q e v h=di P T ov ops l (put e d v) h Q:=Zh _
theorem zyp {o:Oper} {e:Env} {h:Heap} (hc:QA o=false):cv P T ov o e h K=dv (gD P T Y6 e o h) K:=by
 unfold cv
 split
 .rename_i aQ;simp [QA,aQ] at hc
 .rename_i aQ;simp [QA,aQ] at hc
 .rfl
theorem zyo (d:Option Tmp) (f:Operand) (args:List Operand) (iq:Array TypeId) (ty:TypeId) (pos:String) (af:Array Edge) (g:Option (Nat × Bool)) (e:Env) (h:Heap) (K:aJ) :
 cv P T ov ⟨d,.call ⟨.value f,⟨args⟩,iq⟩,ty,pos,af,g⟩ e h K=xW P T ov (BD e args) h K (bz e f):=by
 rw [<- Qi];rfl
theorem yJ (g:FuncId) (args:List ai) (h:Heap) (K:aJ):xW P T ov args h K (.func (.func g) #[] #[])=Ok P T ov g args h K:=by
 simp [xW]
theorem FC (g:FuncId) (fi ca:Array ai) (args:List ai) (h:Heap) (K:aJ):xW P T ov args h K (.func (.func g) fi ca)=Ok P T ov g (fi.toList++args++ca.toList) h K:=rfl
theorem zCq (e:Env) (h:Heap) (Q:Ex->Env->Heap->Prop):W P T ov rd .skip e h Q=Q .normal e h:=rfl
theorem zys (id:Nat) (ops:List Oper) (e:Env) (h:Heap) (Q:Ex->Env->Heap->Prop):W P T ov rd (.region id ⟨ops⟩ false) e h Q=di P T ov ⟨ops⟩ ops e h (Q6 Q):=rfl
theorem zxa (Q:Ex->Env->Heap->Prop) (e:Env) (h:Heap):Q6 Q e h=Q .normal e h:=rfl
theorem zCp (a b:Code) (e:Env) (h:Heap) (Q:Ex->Env->Heap->Prop):W P T ov rd (.seq a b) e h Q=W P T ov rd a e h (Dm P T ov rd b Q):=by
 simp only [W]
 congr 1
 funext x e' h'
 cases x <;> rfl
theorem zvI (id:Nat) (c:Code) (e:Env) (h:Heap) (Q:Ex->Env->Heap->Prop):W P T ov rd (.block id c) e h Q=W P T ov rd c e h (xS id Q):=by
 simp only [W]
 congr 1
 funext x e' h'
 cases x <;> rfl
theorem zCm (c:Operand) (a b:Code) (e:Env) (h:Heap) (Q:Ex->Env->Heap->Prop):W P T ov rd (.cond c a b) e h Q=Gb P T ov rd a b e h Q (bz e c):=rfl
theorem zt3 (a b:Code) (e:Env) (h:Heap) (Q:Ex->Env->Heap->Prop):Gb P T ov rd a b e h Q (.bool true)=W P T ov rd a e h Q:=by simp [Gb,Gm]
theorem zqB (a b:Code) (e:Env) (h:Heap) (Q:Ex->Env->Heap->Prop):Gb P T ov rd a b e h Q (.bool false)=W P T ov rd b e h Q:=by simp [Gb,Gm]
theorem zCn (id:Nat) (e:Env) (h:Heap) (Q:Ex->Env->Heap->Prop):W P T ov rd (.exit id) e h Q=Q (.exit id) e h:=rfl
theorem zDl (e:Env) (h:Heap) (Q:Ex->Env->Heap->Prop):W P T ov rd .ret e h Q=Q .ret e h:=rfl
theorem zAJ (l:Nat) (e:Env) (h:Heap) (Q:Ex->Env->Heap->Prop):W P T ov rd (.label l) e h Q=Q .normal e h:=rfl
theorem zpM (b:Code) (Q:Ex->Env->Heap->Prop) (e:Env) (h:Heap):Dm P T ov rd b Q .normal e h=W P T ov rd b e h Q:=rfl
theorem zvi (b:Code) (Q:Ex->Env->Heap->Prop) (i:Nat) (e:Env) (h:Heap):Dm P T ov rd b Q (.exit i) e h=Q (.exit i) e h:=rfl
theorem zx5 (b:Code) (Q:Ex->Env->Heap->Prop) (e:Env) (h:Heap):Dm P T ov rd b Q .ret e h=Q .ret e h:=rfl
theorem zmp (id:Nat) (Q:Ex->Env->Heap->Prop) (e:Env) (h:Heap):xS id Q .normal e h=Q .normal e h:=rfl
theorem zqt (id:Nat) (Q:Ex->Env->Heap->Prop) (e:Env) (h:Heap):xS id Q (.exit id) e h=Q .normal e h:=by simp [xS]
theorem zkP (id i:Nat) (Q:Ex->Env->Heap->Prop) (e:Env) (h:Heap) (hi:(i == id)=false):xS id Q (.exit i) e h=Q (.exit i) e h:=by
 have:i≠id:=by simpa using hi
 simp [xS,this]
theorem ztO (id:Nat) (Q:Ex->Env->Heap->Prop) (e:Env) (h:Heap):xS id Q .ret e h=Q .ret e h:=rfl
theorem Ok.V8 {fn:Func} {h:Heap} (ho:ov f=none) (hf:T.fn f=some fn) (hc:fn.body=some c) (zP:T.Jy f=false) {m:Nat} (hm:fn.ntmps - args.length=m)
 (hw:W P T ov none c (args++List.replicate m undef) h (eI T fn K)):Ok P T ov f args h K:=Ok.enter ho hf hc zP (by rw [hm];exact hw)
def QV (I:Env->Heap->Prop) (μ:Env->Heap->Nat) (e:Env) (h:Heap) (Q:Ex->Env->Heap->Prop):Ex->Env->Heap->Prop
 | .normal,e',h'=>I e' h'/\μ e' h' < μ e h
 | .exit i,e',h'=>Q (.exit i) e' h'
 | .ret,e',h'=>Q .ret e' h'
theorem zuu (I:Env->Heap->Prop) (μ:Env->Heap->Nat) (e:Env) (h:Heap) (Q:Ex->Env->Heap->Prop) (i:Nat) (e':Env) (h':Heap):QV I μ e h Q (.exit i) e' h'=Q (.exit i) e' h':=rfl
theorem zw0 (I:Env->Heap->Prop) (μ:Env->Heap->Nat) (e:Env) (h:Heap) (Q:Ex->Env->Heap->Prop) (e':Env) (h':Heap):QV I μ e h Q .ret e' h'=Q .ret e' h':=rfl
theorem zoW {I:Env->Heap->Prop} {μ:Env->Heap->Nat} {e:Env} {h:Heap} {e':Env} {h':Heap} (h1:I e' h') (h2:μ e' h' < μ e h):QV I μ e h Q .normal e' h':=⟨h1,h2⟩
theorem zCo {e:Env} {h:Heap} (I:Env->Heap->Prop) (μ:Env->Heap->Nat) (h0:I e h) (round:∀ e h,I e h->W P T ov rd c e h (QV I μ e h Q)):W P T ov rd (.loop c) e h Q :=
 W.Lk I μ h0 λe h hI=>W.mono c e h _ _ (λx e' h' hh=>by cases x <;> exact hh) (round e h hI)

section
variable (C:Fn->List ai->Heap->Option (ai × Heap)) (d:Option Tmp) (ty:TypeId) (pos:String) (af:Array Edge) (g:Option (Nat × Bool)) (e:Env) (h:Heap)
def zEg (c a b:ai) (h:Heap):Option (ai × Heap):=match c with | .bool t=>some (if t then a else b,h)|_=>none
def Wk (v:ai) (h:Heap):Option (ai × Heap):=match v with
 | .pointer (some a)=>some (.pointer (some a),h)
 | .func (.func f) a b=>some (.func (.func f) a b,h)
 | .iface t a=>some (.iface t a,h)
 |_=>none
def WM (v:ai) (i:Nat) (h:Heap):Option (ai × Heap):=match v with | .tuple vs=>(vs[i]?).map λr=>(r,h)|_=>none
end
theorem zyi (ops:Array Oper) (d:Option Tmp) (op:Op) (ty:TypeId) (pos:String) (af:Array Edge) (e:Env):ma ops ⟨d,op,ty,pos,af,none⟩ e=true:=rfl
def Bp (v:ai) (b:Bool):Bool:=match v with | .bool c=>c == b|_=>false

theorem CZ {op:BinOp} {t:TypeId} {k:IntKind} {a b:Int} {v:ai} (hv:r5 op (.int k a) (.int k b)=some v):cA P T op t (.int k a) (.int k b)=some v:=by simp [cA,hv]
section
variable (t:TypeId) (k:IntKind) (a b:Int)
theorem zAN:cA P T .add t (.int k a) (.int k b)=some (.int k (k.wrap (a+b))):=CZ (by simp [r5])
theorem zAW:cA P T .sub t (.int k a) (.int k b)=some (.int k (k.wrap (a - b))):=CZ (by simp [r5])
theorem zAO:cA P T .eql t (.int k a) (.int k b)=some (.bool (a == b)):=CZ (by simp [r5])
theorem zAT:cA P T .neq t (.int k a) (.int k b)=some (.bool (a != b)):=CZ (by simp [r5])
theorem zAS:cA P T .lss t (.int k a) (.int k b)=some (.bool (a < b)):=CZ (by simp [r5])
theorem zAR:cA P T .leq t (.int k a) (.int k b)=some (.bool (a<=b)):=CZ (by simp [r5])
theorem zAQ:cA P T .gtr t (.int k a) (.int k b)=some (.bool (a > b)):=CZ (by simp [r5])
theorem zAP:cA P T .geq t (.int k a) (.int k b)=some (.bool (a >= b)):=CZ (by simp [r5])
end

end
end Go.Am
