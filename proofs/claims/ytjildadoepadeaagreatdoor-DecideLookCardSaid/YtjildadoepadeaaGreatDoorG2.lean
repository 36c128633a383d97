/- More fuel changes nothing. No condition. -/
import Derived.Test.YtjildadoepadeaaGreatDoorG1
set_option linter.unusedSimpArgs false
namespace Go.Am
variable {r:ai × Heap} {h:Heap} {E E':Code->Env->Heap->Option (Ex × Env × Heap)}

def uT (C C':Fn->List ai->Heap->Option (ai × Heap)):Prop:=∀ f args h r,C f args h=some r->C' f args h=some r
def OR (D D':Array Oper->Env->Heap->Option (Env × Heap)):Prop:=∀ ops e h r,D ops e h=some r->D' ops e h=some r

section
variable {P:Program} {T:bm} {C C':Fn->List ai->Heap->Option (ai × Heap)}

theorem Au (hC:uT C C') {e:Env} {o:Oper} (ab:fp P T C e o h=some r):fp P T C' e o h=some r:=by
 obtain ⟨dst,op,ty,pos,after,guard⟩:=o
 cases op <;> simp only [fp] at ab ⊢ <;> try exact ab
 case call c =>
  obtain ⟨callee,args,fc⟩:=c
  cases callee with
  |value f =>
   simp only at ab ⊢
   split at ab
   .exact hC _ _ _ _ ab
   .split at ab
    .rename_i hc;rw [aC hc];exact hC _ _ _ _ ab
    .cases ab
   .cases ab
  |invoke rv m =>
   simp only at ab ⊢
   split at ab
   .simp only [bB,Prod.exists] at ab ⊢
    obtain ⟨f,y,hm,ab⟩:=ab
    exact ⟨f,y,hm,hC _ _ _ _ ab⟩
   .cases ab
  |builtin b=>cases b <;> exact ab

theorem HH (hC:uT C C') {ops:Array Oper}:∀ (l:List Oper) (e:Env) (h:Heap) (r:Env × Heap),nM P T C ops l e h=some r->nM P T C' ops l e h=some r
 | [],_,_,_,ab=>ab
 |o::l,e,h,r,ab=>by
  simp only [nM] at ab ⊢
  split at ab
  .rename_i hw
   rw [aC hw]
   split at ab
   .rename_i v h1 h2
    rw [Au hC h2]
    exact HH hC l _ _ _ ab
   .cases ab
  .rename_i hw
   rw [ay hw]
   exact HH hC l _ _ _ ab

theorem Hx (hC:uT C C') {ops:Array Oper}:∀ (l:List Oper) (e:Env) (h:Heap) (r:List Nat × Env × Heap),mR P T C ops l e h=some r->mR P T C' ops l e h=some r
 | [],_,_,_,ab=>ab
 |o::l,e,h,r,ab=>by
  simp only [mR] at ab ⊢
  split at ab
  .rename_i hw
   rw [aC hw]
   split at ab
   .rename_i v h1 h2
    rw [Au hC h2]
    simp only [bS,Prod.exists] at ab ⊢
    obtain ⟨ks,x1,x2,hr,rfl⟩:=ab
    exact ⟨ks,x1,x2,Hx hC l _ _ _ hr,rfl⟩
   .cases ab
  .rename_i hw
   rw [ay hw]
   simp only [bS,Prod.exists] at ab ⊢
   obtain ⟨ks,x1,x2,hr,rfl⟩:=ab
   exact ⟨ks,x1,x2,Hx hC l _ _ _ hr,rfl⟩

theorem yU (hC:uT C C'):OR (mH P T C) (mH P T C'):=by
 intro ops e h r ab
 unfold mH at ab ⊢
 split at ab
 .rename_i hr
  rw [Hx hC _ _ _ _ hr]
  exact ab
 .cases ab

theorem Nj {f f':Env->Heap->Option (Ex × Env × Heap)} (hf:∀ e h r,f e h=some r->f' e h=some r):∀ (n m:Nat) (e:Env) (h:Heap) (r:Ex × Env × Heap),n<=m->iter f n e h=some r->iter f' m e h=some r
 |0,_,_,_,_,_,hi=>by simp [iter] at hi
 |n+1,0,_,_,_,hle,_=>by omega
 |n+1,m+1,e,h,r,hle,hi=>by
  simp only [iter] at hi ⊢
  split at hi
  .rename_i e1 h1 h2
   rw [hf _ _ _ h2]
   exact Nj hf n m _ _ _ (by omega) hi
  .rename_i aV
   rw [hf _ _ _ hi]
   obtain ⟨x,e1,h1⟩:=r
   cases x with
   |normal=>exact (aV _ _ hi).elim
   |exit id=>rfl
   |ret=>rfl

theorem yT (hC:uT C C') {D D':Array Oper->Env->Heap->Option (Env × Heap)} (hD:OR D D') {n m:Nat} (x5:n<=m) (rd:Option Nat):∀ (c:Code) (e:Env) (h:Heap) (r:Ex × Env × Heap),cT P T C D rd n c e h=some r->cT P T C' D' rd m c e h=some r:=by
 intro c
 induction c with
 |skip=>intro e h r ab;exact ab
 |region id ops d =>
  intro e h r ab
  simp only [cT,bS,Prod.exists] at ab ⊢
  obtain ⟨e1,h1,hr,rfl⟩:=ab
  refine ⟨e1,h1,?_,rfl⟩
  cases d with
  |true=>simp only [if_true] at hr ⊢;exact hD _ _ _ _ hr
  |false=>simp only [fb,if_false] at hr ⊢;exact HH hC _ _ _ _ hr
 |seq a b fZ ga =>
  intro e h r ab
  simp only [cT] at ab ⊢
  split at ab
  .rename_i e1 h1 h2
   rw [fZ _ _ _ h2]
   exact ga _ _ _ ab
  .rename_i aV
   rw [fZ _ _ _ ab]
   obtain ⟨x,e1,h1⟩:=r
   cases x with
   |normal=>exact (aV _ _ ab).elim
   |exit id=>rfl
   |ret=>rfl
 |cond c a b fZ ga =>
  intro e h r ab
  simp only [cT] at ab ⊢
  split at ab
  .exact fZ _ _ _ ab
  .exact ga _ _ _ ab
  .cases ab
 |block id c ih =>
  intro e h r ab
  simp only [cT] at ab ⊢
  split at ab
  .rename_i i e1 h1 h2
   rw [ih _ _ _ h2]
   exact ab
  .rename_i aV
   rw [ih _ _ _ ab]
   obtain ⟨x,e1,h1⟩:=r
   cases x with
   |normal=>rfl
   |exit id=>exact (aV _ _ _ ab).elim
   |ret=>rfl
 |loop c ih=>intro e h r ab;simp only [cT] at ab ⊢;exact Nj ih n m _ _ _ x5 ab
 |exit id=>intro e h r ab;exact ab
 |ret=>intro e h r ab;exact ab
 |label l=>intro e h r ab;exact ab
 |rangeFunc f ps a b _ _ =>
  intro e h r ab
  simp only [cT,Ba] at ab ⊢
  split at ab
  .split at ab
   .rename_i hc
    rw [aC hc]
    split at ab
    .rename_i hr;rw [hC _ _ _ _ hr];exact ab
    .cases ab
   .cases ab
  .cases ab
 |scope c ih=>intro e h r ab;exact ih _ _ _ ab
 |goto l=>intro e h r ab;simp [cT] at ab
 |refuse s=>intro e h r ab;simp [cT] at ab

theorem ZA (hE:∀ c e h r,E c e h=some r->E' c e h=some r) {A:Nat} {args:List ai} (ab:wt E A args h=some r):wt E' A args h=some r:=by
 unfold wt at ab ⊢
 split at ab
 .split at ab
  .rename_i hc
   simp only [aC hc]
   split at ab
   .rename_i h1
    rw [hE _ _ _ _ h1]
    simp only
    split at ab
    .split at ab
     .rename_i h2;rw [hE _ _ _ _ h2];exact ab
     .rename_i h2;rw [hE _ _ _ _ h2];exact ab
     .rename_i h2;rw [hE _ _ _ _ h2];exact ab
     .cases ab
    .cases ab
   .cases ab
  .cases ab
 .cases ab

theorem R6 {E E':Code->Env->Heap->Option (Ex × Env × Heap)} (hE:∀ c e h r,E c e h=some r->E' c e h=some r):∀ (pre:List Code) (e:Env) (h:Heap) (r:Env × Heap),r7 E pre e h=some r->r7 E' pre e h=some r
 | [],_,_,_,ab=>ab
 |c::cs,e,h,r,ab=>by
  simp only [r7] at ab ⊢
  split at ab
  .rename_i hr
   rw [hE _ _ _ _ hr]
   exact R6 hE cs _ _ _ ab
  .cases ab
theorem Sq (hE:∀ c e h r,E c e h=some r->E' c e h=some r) {fn:Func} {g:ai} {e3:Env} {h3:Heap} (ab:pG T E fn g e3 h3=some r):pG T E' fn g e3 h3=some r:=by
 unfold pG at ab ⊢
 split at ab
 .simp only [bB] at ab ⊢
  obtain ⟨fg,h1,cg,h2,ab⟩:=ab
  refine ⟨fg,h1,cg,h2,?_⟩
  split at ab
  .rename_i hn
   rw [aC hn]
   split at ab
   .rename_i hr
    rw [hE _ _ _ _ hr]
    exact ab
   .rename_i hr
    rw [hE _ _ _ _ hr]
    exact ab
   .cases ab
  .cases ab
 .cases ab
theorem ZZ {C C':Fn->List ai->Heap->Option (ai × Heap)} (hC:uT C C') (hE:∀ c e h r,E c e h=some r->E' c e h=some r) {fn:Func} {c:Code} {e:Env} (ab:wj P T E C fn c e h=some r):wj P T E' C' fn c e h=some r:=by
 unfold wj at ab ⊢
 simp only [bB,Prod.exists] at ab ⊢
 obtain ⟨pre,m,t,rest,bJ,ab⟩:=ab
 refine ⟨pre,m,t,rest,bJ,?_⟩
 split at ab
 .rename_i hn
  rw [aC hn]
  simp only [bB,Prod.exists] at ab ⊢
  obtain ⟨e1,h1,hp,v1,h2,ho,ab⟩:=ab
  refine ⟨e1,h1,R6 hE _ _ _ _ hp,v1,h2,Au hC ho,?_⟩
  split at ab
  .rename_i hr
   rw [hE _ _ _ _ hr]
   exact Sq hE ab
  .rename_i hr
   rw [hE _ _ _ _ hr]
   exact Sq hE ab
  .cases ab
 .cases ab
theorem rZ {ov:Ov}:∀ (n m:Nat),n<=m->uT (call P T ov n) (call P T ov m)
 |0,_,_=>by intro f args h r ab;simp [call] at ab
 |n+1,0,hle=>by omega
 |n+1,m+1,hle=>by
  intro f args h r ab
  have ih:=rZ (ov:=ov) n m (by omega)
  cases f with
  |func f =>
   simp only [call] at ab ⊢
   split at ab
   .exact ab
   .simp only [bB] at ab ⊢
    obtain ⟨fn,oU,c,hc,ab⟩:=ab
    refine ⟨fn,oU,c,hc,?_⟩
    split at ab
    .rename_i tF
     rw [aC tF]
     exact ZZ ih (λc e h r hr=>yT ih (yU ih) (by omega) none c e h r hr) ab
    rename_i tF
    rw [ay tF]
    split at ab
    .rename_i hr
     rw [yT ih (yU ih) (by omega) none _ _ _ _ hr]
     exact ab
    .rename_i hr
     rw [yT ih (yU ih) (by omega) none _ _ _ _ hr]
     exact ab
    .cases ab
  |yield A =>
   simp only [call] at ab ⊢
   exact ZA (λc e h r hr=>yT ih (yU ih) (by omega) (some A) c e h r hr) ab
  |_=>simp [call] at ab
end
end Go.Am
namespace Go.Am
variable {K:aF} {args:List ai} {f:FuncId} {c:Code} {Q:Ex->Env->Heap->Prop}

structure Ext (h h':Heap):Prop where
 size:h.size<=h'.size
 get:∀ A,A < h.size->h'.get A=h.get A
 low:min h.low h.size<=h'.low

theorem Ext.refl (h:Heap):Ext h h:=⟨bg _,λ_ _=>rfl,sx _ _⟩
theorem Ext.trans {a b c:Heap} (h:Ext a b) (k:Ext b c):Ext a c :=
 ⟨iG h.size k.size,λA hA=>(k.get A (eR hA h.size)).trans (h.get A hA),by have:=h.low;have:=k.low;have:=h.size;omega⟩
theorem Ext.push (h:Heap) (b:bd):Ext h (h.push b):=⟨Nat.le_succ _,λA hA=>by rw [Heap.bX,ay (by omega)],by rw [Heap.dG];omega⟩
theorem Ext.set {h h':Heap} (e:Ext h h') {A:Nat} (hA:h.size<=A) (da:A < h'.size) (b:bd):Ext h (h'.set A b) :=
 ⟨e.size,λB hB=>by rw [Heap.aL _ _ _ _ da,ay (by omega)];exact e.get B hB,by rw [Heap.bY];have:=e.low;omega⟩

section
variable (P:Program) (T:bm) (ov:Ov)

def uU (f:Fn) (args:List ai) (h:Heap) (K:aF):Prop:=∃ n v h',call P T ov n f args h=some (v,h')/\K v h'
def Ok (f:FuncId) (args:List ai) (h:Heap) (K:aF):Prop:=uU P T ov (.func f) args h K

def cK (r:Option (ai × Heap)) (K:aF):Prop:=match r with
 |some (v,h')=>K v h'
 |none=>False
def zu (v:ai) (A B:Prop):Prop:=match v with
 | .bool t=>(t=true->A)/\(t=false->B)
 |_=>False
def mW (b:Bool) (A B:Prop):Prop:=if b=true then A else B

def N2:Fn->List ai->Heap->Option (ai × Heap):=λ_ _ _=>none

def bL (o:Oper) (e:Env) (h:Heap) (K:aF):Prop :=
 match o.op with
 | .call ⟨.value f,args,_⟩=>match aX e f with
  | .func (.func g) fi ca=>Ok P T ov g (fi.toList++args.toList.map (aX e)++ca.toList) h K
  | .func (.yield A) fi ca=>(fi.isEmpty && ca.isEmpty)=true/\uU P T ov (.yield A) (args.toList.map (aX e)) h K
  |_=>False
 | .call ⟨.invoke r name,args,_⟩=>match aX e r with
  | .iface t x=>(match Iy T t x name h with
   |some (f,y)=>Ok P T ov f (y::args.toList.map (aX e)) h K
   |none=>False)
  |_=>False
 |_=>cK (fp P T N2 e o h) K

def cm (ops:Array Oper):List Oper->Env->Heap->(Env->Heap->Prop)->Prop
 | [],e,h,Q=>Q e h
 |o::l,e,h,Q=>mW (jG ops o e) (bL P T ov o e h λv h'=>cm ops l (put e o.dst v) h' Q) (cm ops l (put e o.dst undef) h Q)

def bt (ops:Array Oper):List Oper->List Nat->Env->Heap->(List Nat->Env->Heap->Prop)->Prop
 | [],ks,e,h,Q=>Q ks e h
 |o::l,ks,e,h,Q =>
  mW (jG ops o e) (bL P T ov o e { h with low:=h.size } λv h' =>
   bt ops l (ks++[gI T o e h h']) (put e o.dst v) { h' with low:=min h.low h'.low } Q)
   (bt ops l (ks++[0]) (put e o.dst undef) h Q)

def cV (W:Env->Heap->(Ex->Env->Heap->Prop)->Prop) (Q:Ex->Env->Heap->Prop):Nat->Env->Heap->Prop
 |0,_,_=>False
 |n+1,e,h=>W e h fun
  | .normal,e',h'=>cV W Q n e' h'
  |x,e',h'=>Q x e' h'

def GH (r:Option (Ex × Env × Heap)) (Q:Ex->Env->Heap->Prop):Prop:=match r with
 |some (x,e,h)=>Q x e h
 |none=>False
def Bb (rd:Option Nat) (g:ai) (ps:List Tmp) (assign body:Code) (e:Env) (h:Heap) (Q:Ex->Env->Heap->Prop):Prop :=
 match g with
 | .func (.func f) fi ca=>(Nu rd h && Of T f)=true /\
  Ok P T ov f (fi.toList++[.func (.yield h.size) #[] #[]]++ca.toList) (h.push (.loop e ps assign body .ready none)) λ_ h2=>GH (AA h.size e h2) Q
 |_=>False
def W (rd:Option Nat):Code->Env->Heap->(Ex->Env->Heap->Prop)->Prop
 | .skip,e,h,Q=>Q .normal e h
 | .region _ ops false,e,h,Q=>cm P T ov ops ops.toList e h (Q .normal)
 | .region _ ops true,e,h,Q=>bt P T ov ops ops.toList [] e h λks e' h'=>zb ops ks (jJ ops.toList [])=true/\Q .normal e' h'
 | .seq a b,e,h,Q=>W rd a e h fun
  | .normal,e',h'=>W rd b e' h' Q
  |x,e',h'=>Q x e' h'
 | .cond c a b,e,h,Q=>zu (aX e c) (W rd a e h Q) (W rd b e h Q)
 | .block id c,e,h,Q=>W rd c e h fun
  | .exit i,e',h'=>if i=id then Q .normal e' h' else Q (.exit i) e' h'
  |x,e',h'=>Q x e' h'
 | .loop c,e,h,Q=>∃ n,cV (W rd c) Q n e h
 | .exit id,e,h,Q=>Q (.exit id) e h
 | .ret,e,h,Q=>Q .ret e h
 | .label _,e,h,Q=>Q .normal e h
 | .scope c,e,h,Q=>W rd c e h Q
 | .rangeFunc g ps assign body,e,h,Q=>Bb P T ov rd (aX e g) ps.toList assign body e h Q
 |_,_,_,_=>False
end

section
variable {P:Program} {T:bm} {ov:Ov} {rd:Option Nat}

theorem uU.mono {f:Fn} {h:Heap} {K':aF} (hk:uU P T ov f args h K) (hm:∀ v h',K v h'->K' v h'):uU P T ov f args h K':=by
 obtain ⟨n,v,h',h1,h2⟩:=hk
 exact ⟨n,v,h',h1,hm v h' h2⟩
theorem Ok.mono {h:Heap} {K':aF} (hk:Ok P T ov f args h K) (hm:∀ v h',K v h'->K' v h'):Ok P T ov f args h K':=by
 obtain ⟨n,v,h',h1,h2⟩:=hk
 exact ⟨n,v,h',h1,hm v h' h2⟩

theorem zqi (C:Fn->List ai->Heap->Option (ai × Heap)):uT N2 C:=by intro f args h r hr;cases hr

theorem bL.sound {o:Oper} {e:Env} {h:Heap} (hw:bL P T ov o e h K):∃ n v h',fp P T (call P T ov n) e o h=some (v,h')/\K v h':=by
 unfold bL at hw
 split at hw
 .rename_i f args fc aG
  split at hw
  .rename_i g fi ca hf
   obtain ⟨n,v,h',h1,h2⟩:=hw
   refine ⟨n,v,h',?_,h2⟩
   unfold fp
   simp only [aG,hf]
   exact h1
  .rename_i A fi ca hf
   obtain ⟨hc,n,v,h',h1,h2⟩:=hw
   refine ⟨n,v,h',?_,h2⟩
   unfold fp
   simp only [aG,hf]
   rw [aC hc]
   exact h1
  .exact hw.elim
 .rename_i r name args fc aG
  split at hw
  .rename_i t x hr
   split at hw
   .rename_i f y hm
    obtain ⟨n,v,h',h1,h2⟩:=hw
    refine ⟨n,v,h',?_,h2⟩
    unfold fp
    simp only [aG,hr,hm]
    exact h1
   .exact hw.elim
  .exact hw.elim
 .unfold cK at hw
  split at hw
  .rename_i v h' h1
   exact ⟨0,v,h',Au (zqi _) h1,hw⟩
  .exact hw.elim

theorem cm.sound {ops:Array Oper}:∀ (l:List Oper) (e:Env) (h:Heap) (Q:Env->Heap->Prop),cm P T ov ops l e h Q->∃ n e' h',nM P T (call P T ov n) ops l e h=some (e',h')/\Q e' h'
 | [],e,h,Q,hw=>⟨0,e,h,rfl,hw⟩
 |o::l,e,h,Q,hw=>by
  simp only [cm,mW] at hw
  split at hw
  .rename_i eV
   obtain ⟨n,v,h1,h2,h3⟩:=bL.sound hw
   obtain ⟨m,e',h',h4,h5⟩:=cm.sound l _ _ _ h3
   refine ⟨max n m,e',h',?_,h5⟩
   simp only [nM,eV,if_true]
   rw [Au (rZ n (max n m) (Bg _ _)) h2]
   exact HH (rZ m (max n m) (zp _ _)) _ _ _ _ h4
  .rename_i eV
   obtain ⟨m,e',h',h4,h5⟩:=cm.sound l _ _ _ hw
   refine ⟨m,e',h',?_,h5⟩
   simp only [nM]
   rw [ay eV]
   exact h4

theorem bt.sound {ops:Array Oper}:∀ (l:List Oper) (ks:List Nat) (e:Env) (h:Heap) (Q:List Nat->Env->Heap->Prop),bt P T ov ops l ks e h Q ->
 ∃ n df e' h',mR P T (call P T ov n) ops l e h=some (df,e',h')/\Q (ks++df) e' h'
 | [],ks,e,h,Q,hw=>⟨0,[],e,h,rfl,by rw [cU];exact hw⟩
 |o::l,ks,e,h,Q,hw=>by
  simp only [bt,mW] at hw
  split at hw
  .rename_i eV
   obtain ⟨n,v,h1,h2,h3⟩:=bL.sound hw
   obtain ⟨m,df,e',h',h4,h5⟩:=bt.sound l _ _ _ _ h3
   refine ⟨max n m,_::df,e',h',?_,by rw [mY] at h5;exact h5⟩
   simp only [mR,eV,if_true]
   rw [Au (rZ n (max n m) (Bg _ _)) h2]
   simp only [Hx (rZ m (max n m) (zp _ _)) _ _ _ _ h4,gJ]
  .rename_i eV
   obtain ⟨m,df,e',h',h4,h5⟩:=bt.sound l _ _ _ _ hw
   refine ⟨m,0::df,e',h',?_,by rw [mY] at h5;exact h5⟩
   simp only [mR]
   rw [ay eV,h4]
   rfl

theorem cV.mono {W:Env->Heap->(Ex->Env->Heap->Prop)->Prop} (hW:∀ e h Q Q',(∀ x e h,Q x e h->Q' x e h)->W e h Q->W e h Q') {Q Q':Ex->Env->Heap->Prop} (hq:∀ x e h,Q x e h->Q' x e h):∀ (n:Nat) (e:Env) (h:Heap),cV W Q n e h->cV W Q' n e h
 |0,_,_,hw=>hw
 |n+1,e,h,hw=>by
  simp only [cV] at hw ⊢
  refine hW _ _ _ _ ?_ hw
  intro x e' h'
  cases x with
  |normal=>exact cV.mono hW hq n e' h'
  |exit id=>exact hq _ _ _
  |ret=>exact hq _ _ _

theorem W.sound:∀ (c:Code) (e:Env) (h:Heap) (Q:Ex->Env->Heap->Prop),W P T ov rd c e h Q->∃ n x e' h',cT P T (call P T ov n) (mH P T (call P T ov n)) rd n c e h=some (x,e',h')/\Q x e' h':=by
 intro c
 have lift:∀ {n m:Nat} (c:Code) (e:Env) (h:Heap) (r:Ex × Env × Heap),n<=m->cT P T (call P T ov n) (mH P T (call P T ov n)) rd n c e h=some r->cT P T (call P T ov m) (mH P T (call P T ov m)) rd m c e h=some r :=
  λc e h r x5=>yT (rZ _ _ x5) (yU (rZ _ _ x5)) x5 rd c e h r
 induction c with
 |skip=>intro e h Q hw;exact ⟨0,.normal,e,h,rfl,hw⟩
 |region id ops d =>
  intro e h Q hw
  cases d with
  |false =>
   simp only [W] at hw
   obtain ⟨n,e',h',h1,h2⟩:=cm.sound _ _ _ _ hw
   exact ⟨n,.normal,e',h',by simp [cT,h1],h2⟩
  |true =>
   simp only [W] at hw
   obtain ⟨n,ks,e',h',h1,h2,h3⟩:=bt.sound _ _ _ _ _ hw
   rw [List.nil_append] at h2
   refine ⟨n,.normal,e',h',?_,h3⟩
   simp [cT,mH,h1,h2]
 |seq a b fZ ga =>
  intro e h Q hw
  simp only [W] at hw
  obtain ⟨n,x,e1,h1,h2,h3⟩:=fZ _ _ _ hw
  cases x with
  |normal =>
   obtain ⟨m,x,e2,h4,h5,h6⟩:=ga _ _ _ h3
   refine ⟨max n m,x,e2,h4,?_,h6⟩
   simp only [cT]
   rw [lift a e h _ (Bg n m) h2]
   exact lift b _ _ _ (zp n m) h5
  |exit id=>exact ⟨n,.exit id,e1,h1,by simp only [cT];rw [h2],h3⟩
  |ret=>exact ⟨n,.ret,e1,h1,by simp only [cT];rw [h2],h3⟩
 |cond c a b fZ ga =>
  intro e h Q hw
  simp only [W,zu] at hw
  split at hw
  .rename_i t ht
   cases t with
   |true =>
    obtain ⟨n,x,e1,h1,h2,h3⟩:=fZ _ _ _ (hw.1 rfl)
    exact ⟨n,x,e1,h1,by simp only [cT,ht];exact h2,h3⟩
   |false =>
    obtain ⟨n,x,e1,h1,h2,h3⟩:=ga _ _ _ (hw.2 rfl)
    exact ⟨n,x,e1,h1,by simp only [cT,ht];exact h2,h3⟩
  .exact hw.elim
 |block id c ih =>
  intro e h Q hw
  simp only [W] at hw
  obtain ⟨n,x,e1,h1,h2,h3⟩:=ih _ _ _ hw
  cases x with
  |normal=>exact ⟨n,.normal,e1,h1,by simp only [cT];rw [h2],h3⟩
  |exit i =>
   by_cases hi:i=id
   .exact ⟨n,.normal,e1,h1,by simp only [cT,h2,aC hi],by simpa only [aC hi] using h3⟩
   .exact ⟨n,.exit i,e1,h1,by simp only [cT,h2,ay hi],by simpa only [ay hi] using h3⟩
  |ret=>exact ⟨n,.ret,e1,h1,by simp only [cT];rw [h2],h3⟩
 |loop c ih =>
  intro e h Q hw
  simp only [W] at hw
  obtain ⟨k,hw⟩:=hw
  have key:∀ (k:Nat) (e:Env) (h:Heap),cV (W P T ov rd c) Q k e h->∃ n x e' h',iter (cT P T (call P T ov n) (mH P T (call P T ov n)) rd n c) n e h=some (x,e',h')/\Q x e' h':=by
   intro k
   induction k with
   |zero=>intro e h hw;exact hw.elim
   |succ k jR =>
    intro e h hw
    simp only [cV] at hw
    obtain ⟨n,x,e1,h1,h2,h3⟩:=ih _ _ _ hw
    cases x with
    |normal =>
     obtain ⟨m,x,e2,h4,h5,h6⟩:=jR _ _ h3
     refine ⟨max n m+1,x,e2,h4,?_,h6⟩
     simp only [iter]
     rw [lift c e h _ (show n<=max n m+1 by omega) h2]
     exact Nj (λe h r hr=>lift c e h r (show m<=max n m+1 by omega) hr) m (max n m) _ _ _ (zp _ _) h5
    |exit id=>exact ⟨n+1,.exit id,e1,h1,by simp only [iter];rw [lift c e h _ (Nat.le_succ n) h2],h3⟩
    |ret=>exact ⟨n+1,.ret,e1,h1,by simp only [iter];rw [lift c e h _ (Nat.le_succ n) h2],h3⟩
  obtain ⟨n,x,e',h',h1,h2⟩:=key k e h hw
  exact ⟨n,x,e',h',by simp only [cT];exact h1,h2⟩
 |exit id=>intro e h Q hw;exact ⟨0,.exit id,e,h,rfl,hw⟩
 |ret=>intro e h Q hw;exact ⟨0,.ret,e,h,rfl,hw⟩
 |label l=>intro e h Q hw;exact ⟨0,.normal,e,h,rfl,hw⟩
 |rangeFunc g ps a b _ _ =>
  intro e h Q hw
  simp only [W,Bb] at hw
  split at hw
  .rename_i f fi ca hg
   obtain ⟨hc,n,v,h1,h2,h3⟩:=hw
   unfold GH at h3
   split at h3
   .rename_i x e' h' h4
    refine ⟨n,x,e',h',?_,h3⟩
    simp only [cT,Ba,hg]
    rw [aC hc,h2]
    exact h4
   .exact h3.elim
  .exact hw.elim
 |scope c ih=>intro e h Q hw;exact ih _ _ _ hw
 |goto l=>intro e h Q hw;exact hw.elim
 |refuse s=>intro e h Q hw;exact hw.elim

theorem Ok.enter {fn:Func} {h:Heap} (ho:ov f=none) (hf:T.fn f=some fn) (hc:fn.body=some c) (tF:T.CT f=false)
 (hw:W P T ov none c (args++List.replicate (fn.ntmps - args.length) undef) h λx e' h'=>(x=.ret\/x=.normal)/\∃ v,jH T fn e' h'=some v/\K v h'):Ok P T ov f args h K:=by
 obtain ⟨n,x,e',h',h1,hx,v,h2,h3⟩:=W.sound _ _ _ _ hw
 refine ⟨n+1,v,h',?_,h3⟩
 simp only [call,ho,hf,hc,cM,h1,tF,fb,if_false]
 rcases hx with rfl|rfl <;> simp [h2]

def aae (P:Program) (T:bm) (ov:Ov):List Code->Env->Heap->(Env->Heap->Prop)->Prop
 | [],e,h,Q=>Q e h
 |c::cs,e,h,Q=>W P T ov none c e h λx e' h'=>x=.normal/\aae P T ov cs e' h' Q
theorem aae.sound:∀ (pre:List Code) (e:Env) (h:Heap) (Q:Env->Heap->Prop),aae P T ov pre e h Q->∃ n e' h',r7 (cT P T (call P T ov n) (mH P T (call P T ov n)) none n) pre e h=some (e',h')/\Q e' h'
 | [],e,h,Q,hw=>⟨0,e,h,rfl,hw⟩
 |c::cs,e,h,Q,hw=>by
  simp only [aae] at hw
  obtain ⟨n,x,e1,h1,r1,rfl,hw⟩:=W.sound _ _ _ _ hw
  obtain ⟨k,e2,h2,r2,hq⟩:=aae.sound cs e1 h1 Q hw
  refine ⟨max n k,e2,h2,?_,hq⟩
  simp only [r7]
  rw [yT (rZ _ _ (Bg n k)) (yU (rZ _ _ (Bg n k))) (Bg n k) none _ _ _ _ r1]
  exact R6 (λc e h r=>yT (rZ _ _ (zp n k)) (yU (rZ _ _ (zp n k))) (zp n k) none c e h r) _ _ _ _ r2

theorem uU.round {A:Nat} {env:List ai} {ps:List Tmp} {assign body:Code} {st:LoopState} {dW:Option Code} {h:Heap} (hg:h.get A=some (.loop env ps assign body st dW)) (hl:args.length=ps.length)
 (hw:W P T ov (some A) assign (fM env ps args) h λx e1 h1=>x=.normal/\∃ nh yF Jt Ju gW,h1.get A=some (.loop nh yF Jt Ju .ready gW) /\
  W P T ov (some A) body e1 (h1.set A (.loop nh yF Jt Ju .busy gW)) λx _ h2=>cK (vU A (match x with | .normal=>none | .ret=>some .ret | .exit id=>some (.exit id)) h2) K):uU P T ov (.yield A) args h K:=by
 obtain ⟨n,x,e1,h1,r1,rfl,nh,yF,Jt,Ju,gW,r2,hw⟩:=W.sound _ _ _ _ hw
 obtain ⟨m,x,e2,h2,r3,hk⟩:=W.sound _ _ _ _ hw
 unfold cK at hk
 split at hk
 .rename_i v h' r4
  refine ⟨max n m+1,v,h',?_,hk⟩
  have l1:=yT (P:=P) (T:=T) (rZ (ov:=ov) n (max n m) (Bg _ _)) (yU (rZ n (max n m) (Bg _ _))) (Bg n m) (some A) _ _ _ _ r1
  have l2:=yT (P:=P) (T:=T) (rZ (ov:=ov) m (max n m) (zp _ _)) (yU (rZ m (max n m) (zp _ _))) (zp n m) (some A) _ _ _ _ r3
  simp only [call,wt,hg,hl,if_true,l1,r2,l2]
  cases x <;> exact r4
 .exact hk.elim

theorem Ok.over {g:List ai->Heap->Option (ai × Heap)} {h h':Heap} {v:ai} (ho:ov f=some g) (hg:g args h=some (v,h')) (hk:K v h'):Ok P T ov f args h K :=
 ⟨1,v,h',by simp [call,ho,hg],hk⟩

theorem W.loop {c:Code} {e:Env} {h:Heap} {Q:Ex->Env->Heap->Prop} (I:Env->Heap->Prop) (μ:Env->Heap->Nat) (h0:I e h)
 (round:∀ e h,I e h->W P T ov rd c e h λx e' h'=>match x with | .normal=>I e' h'/\μ e' h' < μ e h|x=>Q x e' h') (hm:∀ e h Q Q',(∀ x e h,Q x e h->Q' x e h)->W P T ov rd c e h Q->W P T ov rd c e h Q'):W P T ov rd (.loop c) e h Q:=by
 have key:∀ (n:Nat) (e:Env) (h:Heap),μ e h < n->I e h->cV (W P T ov rd c) Q n e h:=by
  intro n
  induction n with
  |zero=>intro e h hn;omega
  |succ n ih =>
   intro e h hn hI
   simp only [cV]
   refine hm _ _ _ _ ?_ (round e h hI)
   intro x e' h'
   cases x with
   |normal=>exact λhh=>ih e' h' (by omega) hh.1
   |exit i=>exact λhh=>hh
   |ret=>exact λhh=>hh
 exact ⟨μ e h+1,key _ e h (su _) h0⟩

theorem bL.mono {o:Oper} {e:Env} {h:Heap} {K K':aF} (hk:∀ v h',K v h'->K' v h') (hw:bL P T ov o e h K):bL P T ov o e h K':=by
 unfold bL at hw ⊢
 split at hw
 .split at hw
  .exact hw.mono hk
  .exact ⟨hw.1,hw.2.mono hk⟩
  .exact hw.elim
 .split at hw
  .split at hw
   .exact hw.mono hk
   .exact hw.elim
  .exact hw.elim
 .unfold cK at hw ⊢
  split at hw
  .rename_i v h' h1;exact hk v h' hw
  .exact hw.elim
theorem cm.mono {ops:Array Oper}:∀ (l:List Oper) (e:Env) (h:Heap) (Q Q':Env->Heap->Prop),(∀ e h,Q e h->Q' e h)->cm P T ov ops l e h Q->cm P T ov ops l e h Q'
 | [],_,_,_,_,hq,hw=>hq _ _ hw
 |o::l,e,h,Q,Q',hq,hw=>by
  simp only [cm,mW] at hw ⊢
  split at hw
  .rename_i eV;rw [aC eV];exact bL.mono (λv h'=>cm.mono l _ _ _ _ hq) hw
  .rename_i eV;rw [ay eV];exact cm.mono l _ _ _ _ hq hw
theorem bt.mono {ops:Array Oper}:∀ (l:List Oper) (ks:List Nat) (e:Env) (h:Heap) (Q Q':List Nat->Env->Heap->Prop),(∀ ks e h,Q ks e h->Q' ks e h)->bt P T ov ops l ks e h Q->bt P T ov ops l ks e h Q'
 | [],_,_,_,_,_,hq,hw=>hq _ _ _ hw
 |o::l,ks,e,h,Q,Q',hq,hw=>by
  simp only [bt,mW] at hw ⊢
  split at hw
  .rename_i eV;rw [aC eV];exact bL.mono (λv h'=>bt.mono l _ _ _ _ _ hq) hw
  .rename_i eV;rw [ay eV];exact bt.mono l _ _ _ _ _ hq hw
theorem W.mono:∀ (c:Code) (e:Env) (h:Heap) (Q Q':Ex->Env->Heap->Prop),(∀ x e h,Q x e h->Q' x e h)->W P T ov rd c e h Q->W P T ov rd c e h Q':=by
 intro c
 induction c with
 |skip=>intro e h Q Q' hq hw;exact hq _ _ _ hw
 |region id ops d =>
  intro e h Q Q' hq hw
  cases d with
  |false=>exact cm.mono _ _ _ _ _ (hq _) hw
  |true=>exact bt.mono _ _ _ _ _ _ (λks e h hh=>⟨hh.1,hq _ _ _ hh.2⟩) hw
 |seq a b fZ ga =>
  intro e h Q Q' hq hw
  simp only [W] at hw ⊢
  refine fZ _ _ _ _ ?_ hw
  intro x e' h'
  cases x with
  |normal=>exact ga _ _ _ _ hq
  |exit id=>exact hq _ _ _
  |ret=>exact hq _ _ _
 |cond c a b fZ ga =>
  intro e h Q Q' hq hw
  simp only [W,zu] at hw ⊢
  split at hw
  .exact ⟨λht=>fZ _ _ _ _ hq (hw.1 ht),λht=>ga _ _ _ _ hq (hw.2 ht)⟩
  .exact hw.elim
 |block id c ih =>
  intro e h Q Q' hq hw
  simp only [W] at hw ⊢
  refine ih _ _ _ _ ?_ hw
  intro x e' h'
  cases x with
  |normal=>exact hq _ _ _
  |exit i =>
   intro hh
   by_cases hi:i=id
   .simp only [aC hi] at hh ⊢;exact hq _ _ _ hh
   .simp only [ay hi] at hh ⊢;exact hq _ _ _ hh
  |ret=>exact hq _ _ _
 |loop c ih =>
  intro e h Q Q' hq hw
  simp only [W] at hw ⊢
  obtain ⟨n,hw⟩:=hw
  exact ⟨n,cV.mono ih hq n e h hw⟩
 |exit id=>intro e h Q Q' hq hw;exact hq _ _ _ hw
 |ret=>intro e h Q Q' hq hw;exact hq _ _ _ hw
 |label l=>intro e h Q Q' hq hw;exact hq _ _ _ hw
 |rangeFunc g ps a b _ _ =>
  intro e h Q Q' hq hw
  simp only [W,Bb] at hw ⊢
  split at hw
  .refine ⟨hw.1,hw.2.mono λv h2 hh=>?_⟩
   unfold GH at hh ⊢
   split at hh
   .exact hq _ _ _ hh
   .exact hh.elim
  .exact hw.elim
 |scope c ih=>intro e h Q Q' hq hw;exact ih _ _ _ _ hq hw
 |goto l=>intro e h Q Q' hq hw;exact hw.elim
 |refuse s=>intro e h Q Q' hq hw;exact hw.elim

theorem aae.mono:∀ (pre:List Code) (e:Env) (h:Heap) (Q Q':Env->Heap->Prop),(∀ e h,Q e h->Q' e h)->aae P T ov pre e h Q->aae P T ov pre e h Q'
 | [],e,h,_,_,hq,hw=>hq e h hw
 |c::cs,_,_,Q,Q',hq,hw=>W.mono c _ _ _ _ (λ_ e' h' ⟨h1,h2⟩=>⟨h1,aae.mono cs e' h' Q Q' hq h2⟩) hw
theorem W.Eg {e:Env} {h:Heap} (I:Env->Heap->Prop) (μ:Env->Heap->Nat) (h0:I e h)
 (round:∀ e h,I e h->W P T ov rd c e h λx e' h'=>match x with | .normal=>I e' h'/\μ e' h' < μ e h|x=>Q x e' h'):W P T ov rd (.loop c) e h Q:=W.loop I μ h0 round (W.mono c)
structure Hid (p:Prop):Prop where
 out:p
theorem Oz (p:Prop):Hid p=p:=propext ⟨Hid.out,Hid.mk⟩
section
variable (P:Program) (T:bm) (ov:Ov) (rd:Option Nat)
def aah (ops:Array Oper) (l:List Oper) (d:Option Tmp) (Q:Env->Heap->Prop) (e:Env):aF:=λv h'=>Hid (cm P T ov ops l (put e d v) h' Q)
def Ja (ops:Array Oper) (o:Oper) (l:List Oper) (e:Env) (h:Heap) (Q:Env->Heap->Prop) (b:Bool):Prop:=if b=true then bL P T ov o e h (aah P T ov ops l o.dst Q e) else cm P T ov ops l (put e o.dst undef) h Q
def zj (a b:Code) (e:Env) (h:Heap) (Q:Ex->Env->Heap->Prop) (v:ai):Prop:=zu v (W P T ov rd a e h Q) (W P T ov rd b e h Q)
def Bk (b:Code) (Q:Ex->Env->Heap->Prop):Ex->Env->Heap->Prop
 | .normal,e',h'=>W P T ov rd b e' h' Q
 | .exit i,e',h'=>Q (.exit i) e' h'
 | .ret,e',h'=>Q .ret e' h'
def wh (id:Nat) (Q:Ex->Env->Heap->Prop):Ex->Env->Heap->Prop
 | .normal,e',h'=>Q .normal e' h'
 | .exit i,e',h'=>if i=id then Q .normal e' h' else Q (.exit i) e' h'
 | .ret,e',h'=>Q .ret e' h'
def I0 (Q:Ex->Env->Heap->Prop):Env->Heap->Prop:=Q .normal
def zxH (ops:Array Oper) (Q:Ex->Env->Heap->Prop):List Nat->Env->Heap->Prop:=λks e' h'=>zb ops ks (jJ ops.toList [])=true/\Q .normal e' h'
def dq (fn:Func) (K:aF):Ex->Env->Heap->Prop:=λx e' h'=>(x=.ret\/x=.normal)/\∃ v,jH T fn e' h'=some v/\K v h'
def uL (e:Env):List Operand->List ai
 | []=>[]
 |x::xs=>aX e x::uL e xs
def Iv (o:Oper):Bool:=match o.op with
 | .call ⟨.value _,_,_⟩=>true
 | .call ⟨.invoke _ _,_,_⟩=>true
 |_=>false
def qh (args:List ai) (h:Heap) (K:aF) (v:ai):Prop:=match v with
 | .func (.func g) fi ca=>Ok P T ov g (fi.toList++args++ca.toList) h K
 | .func (.yield A) fi ca=>(fi.isEmpty && ca.isEmpty)=true/\uU P T ov (.yield A) args h K
 |_=>False
end

theorem H9 (e:Env):∀ xs:List Operand,xs.map (aX e)=uL e xs
 | []=>rfl
 |x::xs=>by rw [zzs,uL,H9 e xs]
theorem zrv (e:Env):uL e []=[]:=rfl
theorem zpz (e:Env) (x:Operand) (xs:List Operand):uL e (x::xs)=aX e x::uL e xs:=rfl
theorem zsL (v:ai) (h:Heap) (K:aF):cK (some (v,h)) K=K v h:=rfl
theorem ztk (ops:Array Oper) (e:Env) (h:Heap) (Q:Env->Heap->Prop):cm P T ov ops [] e h Q=Q e h:=rfl
theorem S4 (ops:Array Oper) (o:Oper) (l:List Oper) (e:Env) (h:Heap) (Q:Env->Heap->Prop):cm P T ov ops (o::l) e h Q=Ja P T ov ops o l e h Q (jG ops o e):=by
 simp only [cm,mW,Ja]
 split
 .exact propext ⟨bL.mono λ_ _ hw=>⟨hw⟩,bL.mono λ_ _ hw=>hw.out⟩
 .rfl
theorem zqR (ops:Array Oper) (o:Oper) (l:List Oper) (e:Env) (h:Heap) (Q:Env->Heap->Prop):Ja P T ov ops o l e h Q true=bL P T ov o e h (aah P T ov ops l o.dst Q e):=rfl
theorem zoh (ops:Array Oper) (o:Oper) (l:List Oper) (e:Env) (h:Heap) (Q:Env->Heap->Prop):Ja P T ov ops o l e h Q false=cm P T ov ops l (put e o.dst undef) h Q:=rfl
theorem zth (ops:Array Oper) (l:List Oper) (d:Option Tmp) (Q:Env->Heap->Prop) (e:Env) (v:ai) (h:Heap):aah P T ov ops l d Q e v h=cm P T ov ops l (put e d v) h Q:=Oz _
theorem ztj {o:Oper} {e:Env} {h:Heap} (hc:Iv o=false):bL P T ov o e h K=cK (fp P T N2 e o h) K:=by
 unfold bL
 split
 .rename_i aG;simp [Iv,aG] at hc
 .rename_i aG;simp [Iv,aG] at hc
 .rfl
theorem zti (d:Option Tmp) (f:Operand) (args:List Operand) (fc:Array TypeId) (ty:TypeId) (pos:String) (af:Array Edge) (g:Option (Nat × Bool)) (e:Env) (h:Heap) (K:aF) :
 bL P T ov ⟨d,.call ⟨.value f,⟨args⟩,fc⟩,ty,pos,af,g⟩ e h K=qh P T ov (uL e args) h K (aX e f):=by
 rw [<- H9];rfl
theorem nK (g:FuncId) (args:List ai) (h:Heap) (K:aF):qh P T ov args h K (.func (.func g) #[] #[])=Ok P T ov g args h K:=by
 simp [qh]
theorem oz (g:FuncId) (fi ca:Array ai) (args:List ai) (h:Heap) (K:aF):qh P T ov args h K (.func (.func g) fi ca)=Ok P T ov g (fi.toList++args++ca.toList) h K:=rfl
theorem zwU (e:Env) (h:Heap) (Q:Ex->Env->Heap->Prop):W P T ov rd .skip e h Q=Q .normal e h:=rfl
theorem ztl (id:Nat) (ops:List Oper) (e:Env) (h:Heap) (Q:Ex->Env->Heap->Prop):W P T ov rd (.region id ⟨ops⟩ false) e h Q=cm P T ov ⟨ops⟩ ops e h (I0 Q):=rfl
theorem zso (Q:Ex->Env->Heap->Prop) (e:Env) (h:Heap):I0 Q e h=Q .normal e h:=rfl
theorem UP (a b:Code) (e:Env) (h:Heap) (Q:Ex->Env->Heap->Prop):W P T ov rd (.seq a b) e h Q=W P T ov rd a e h (Bk P T ov rd b Q):=by
 simp only [W]
 congr 1
 funext x e' h'
 cases x <;> rfl
theorem Uj (id:Nat) (c:Code) (e:Env) (h:Heap) (Q:Ex->Env->Heap->Prop):W P T ov rd (.block id c) e h Q=W P T ov rd c e h (wh id Q):=by
 simp only [W]
 congr 1
 funext x e' h'
 cases x <;> rfl
theorem zwQ (c:Operand) (a b:Code) (e:Env) (h:Heap) (Q:Ex->Env->Heap->Prop):W P T ov rd (.cond c a b) e h Q=zj P T ov rd a b e h Q (aX e c):=rfl
theorem zpW (a b:Code) (e:Env) (h:Heap) (Q:Ex->Env->Heap->Prop):zj P T ov rd a b e h Q (.bool true)=W P T ov rd a e h Q:=by simp [zj,zu]
theorem ZX (a b:Code) (e:Env) (h:Heap) (Q:Ex->Env->Heap->Prop):zj P T ov rd a b e h Q (.bool false)=W P T ov rd b e h Q:=by simp [zj,zu]
theorem zwR (id:Nat) (e:Env) (h:Heap) (Q:Ex->Env->Heap->Prop):W P T ov rd (.exit id) e h Q=Q (.exit id) e h:=rfl
theorem zxy (e:Env) (h:Heap) (Q:Ex->Env->Heap->Prop):W P T ov rd .ret e h Q=Q .ret e h:=rfl
theorem zvj (l:Nat) (e:Env) (h:Heap) (Q:Ex->Env->Heap->Prop):W P T ov rd (.label l) e h Q=Q .normal e h:=rfl
theorem Zf (b:Code) (Q:Ex->Env->Heap->Prop) (e:Env) (h:Heap):Bk P T ov rd b Q .normal e h=W P T ov rd b e h Q:=rfl
theorem zq6 (b:Code) (Q:Ex->Env->Heap->Prop) (i:Nat) (e:Env) (h:Heap):Bk P T ov rd b Q (.exit i) e h=Q (.exit i) e h:=rfl
theorem zs8 (b:Code) (Q:Ex->Env->Heap->Prop) (e:Env) (h:Heap):Bk P T ov rd b Q .ret e h=Q .ret e h:=rfl
theorem Yy (id:Nat) (Q:Ex->Env->Heap->Prop) (e:Env) (h:Heap):wh id Q .normal e h=Q .normal e h:=rfl
theorem Zd (id:Nat) (Q:Ex->Env->Heap->Prop) (e:Env) (h:Heap):wh id Q (.exit id) e h=Q .normal e h:=by simp [wh]
theorem zpF (id:Nat) (Q:Ex->Env->Heap->Prop) (e:Env) (h:Heap):wh id Q .ret e h=Q .ret e h:=rfl
theorem Ok.Mh {fn:Func} {h:Heap} (ho:ov f=none) (hf:T.fn f=some fn) (hc:fn.body=some c) (tF:T.CT f=false) {m:Nat} (hm:fn.ntmps - args.length=m)
 (hw:W P T ov none c (args++List.replicate m undef) h (dq T fn K)):Ok P T ov f args h K:=Ok.enter ho hf hc tF (by rw [hm];exact hw)
def I8 (I:Env->Heap->Prop) (μ:Env->Heap->Nat) (e:Env) (h:Heap) (Q:Ex->Env->Heap->Prop):Ex->Env->Heap->Prop
 | .normal,e',h'=>I e' h'/\μ e' h' < μ e h
 | .exit i,e',h'=>Q (.exit i) e' h'
 | .ret,e',h'=>Q .ret e' h'
theorem zqd (I:Env->Heap->Prop) (μ:Env->Heap->Nat) (e:Env) (h:Heap) (Q:Ex->Env->Heap->Prop) (i:Nat) (e':Env) (h':Heap):I8 I μ e h Q (.exit i) e' h'=Q (.exit i) e' h':=rfl
theorem zsh (I:Env->Heap->Prop) (μ:Env->Heap->Nat) (e:Env) (h:Heap) (Q:Ex->Env->Heap->Prop) (e':Env) (h':Heap):I8 I μ e h Q .ret e' h'=Q .ret e' h':=rfl
theorem YZ {I:Env->Heap->Prop} {μ:Env->Heap->Nat} {e:Env} {h:Heap} {e':Env} {h':Heap} (h1:I e' h') (h2:μ e' h' < μ e h):I8 I μ e h Q .normal e' h':=⟨h1,h2⟩
theorem zwS {e:Env} {h:Heap} (I:Env->Heap->Prop) (μ:Env->Heap->Nat) (h0:I e h) (round:∀ e h,I e h->W P T ov rd c e h (I8 I μ e h Q)):W P T ov rd (.loop c) e h Q :=
 W.Eg I μ h0 λe h hI=>W.mono c e h _ _ (λx e' h' hh=>by cases x <;> exact hh) (round e h hI)

section
variable (C:Fn->List ai->Heap->Option (ai × Heap)) (d:Option Tmp) (ty:TypeId) (pos:String) (af:Array Edge) (g:Option (Nat × Bool)) (e:Env) (h:Heap)
def zyW (c a b:ai) (h:Heap):Option (ai × Heap):=match c with | .bool t=>some (if t then a else b,h)|_=>none
def Ml (v:ai) (h:Heap):Option (ai × Heap):=match v with
 | .pointer (some a)=>some (.pointer (some a),h)
 | .func (.func f) a b=>some (.func (.func f) a b,h)
 | .iface t a=>some (.iface t a,h)
 |_=>none
def MD (v:ai) (i:Nat) (h:Heap):Option (ai × Heap):=match v with | .tuple vs=>(vs[i]?).map λr=>(r,h)|_=>none
end
theorem zte (ops:Array Oper) (d:Option Tmp) (op:Op) (ty:TypeId) (pos:String) (af:Array Edge) (e:Env):jG ops ⟨d,op,ty,pos,af,none⟩ e=true:=rfl
def uI (v:ai) (b:Bool):Bool:=match v with | .bool c=>c == b|_=>false

theorem vW {op:BinOp} {t:TypeId} {k:IntKind} {a b:Int} {v:ai} (hv:nL op (.int k a) (.int k b)=some v):bD P T op t (.int k a) (.int k b)=some v:=by simp [bD,hv]
section
variable (t:TypeId) (k:IntKind) (a b:Int)
theorem zvz:bD P T .add t (.int k a) (.int k b)=some (.int k (k.wrap (a+b))):=vW (by simp [nL])
theorem zvK:bD P T .sub t (.int k a) (.int k b)=some (.int k (k.wrap (a - b))):=vW (by simp [nL])
theorem zvA:bD P T .eql t (.int k a) (.int k b)=some (.bool (a == b)):=vW (by simp [nL])
theorem zvG:bD P T .neq t (.int k a) (.int k b)=some (.bool (a != b)):=vW (by simp [nL])
theorem zvE:bD P T .lss t (.int k a) (.int k b)=some (.bool (a < b)):=vW (by simp [nL])
theorem zvD:bD P T .leq t (.int k a) (.int k b)=some (.bool (a<=b)):=vW (by simp [nL])
theorem zvC:bD P T .gtr t (.int k a) (.int k b)=some (.bool (a > b)):=vW (by simp [nL])
theorem zvB:bD P T .geq t (.int k a) (.int k b)=some (.bool (a >= b)):=vW (by simp [nL])
end

end
end Go.Am
