/- More fuel changes nothing. No condition. -/
import Derived.Test.YtnkmeidmdaidhaaGreatDoorG1
set_option linter.unusedSimpArgs false
namespace Go.Am
variable {r:ai × Heap} {h:Heap} {E E':Code->Env->Heap->Option (Ex × Env × Heap)}

def yB (C C':Fn->List ai->Heap->Option (ai × Heap)):Prop:=∀ f args h r,C f args h=some r->C' f args h=some r
def Vi (D D':Array Oper->Env->Heap->Option (Env × Heap)):Prop:=∀ ops e h r,D ops e h=some r->D' ops e h=some r

section
variable {P:Program} {T:bx} {C C':Fn->List ai->Heap->Option (ai × Heap)}

theorem Ec (hC:yB C C') {e:Env} {o:Oper} (aj:gq P T C e o h=some r):gq P T C' e o h=some r:=by
 obtain ⟨dst,op,ty,pos,after,guard⟩:=o
 cases op <;> simp only [gq] at aj ⊢ <;> try exact aj
 case call c =>
  obtain ⟨callee,args,fY⟩:=c
  cases callee with
  |value f =>
   simp only at aj ⊢
   split at aj
   .exact hC _ _ _ _ aj
   .split at aj
    .rename_i hc;rw [aG hc];exact hC _ _ _ _ aj
    .cases aj
   .cases aj
  |invoke rv m =>
   simp only at aj ⊢
   split at aj
   .simp only [ck,Prod.exists] at aj ⊢
    obtain ⟨f,y,hm,aj⟩:=aj
    exact ⟨f,y,hm,hC _ _ _ _ aj⟩
   .cases aj
  |builtin b=>cases b <;> exact aj

theorem LX (hC:yB C C') {ops:Array Oper}:∀ (l:List Oper) (e:Env) (h:Heap) (r:Env × Heap),pF P T C ops l e h=some r->pF P T C' ops l e h=some r
 | [],_,_,_,aj=>aj
 |o::l,e,h,r,aj=>by
  simp only [pF] at aj ⊢
  split at aj
  .rename_i hw
   rw [aG hw]
   split at aj
   .rename_i v h1 h2
    rw [Ec hC h2]
    exact LX hC l _ _ _ aj
   .cases aj
  .rename_i hw
   rw [aA hw]
   exact LX hC l _ _ _ aj

theorem LH (hC:yB C C') {ops:Array Oper}:∀ (l:List Oper) (e:Env) (h:Heap) (r:List Nat × Env × Heap),oD P T C ops l e h=some r->oD P T C' ops l e h=some r
 | [],_,_,_,aj=>aj
 |o::l,e,h,r,aj=>by
  simp only [oD] at aj ⊢
  split at aj
  .rename_i hw
   rw [aG hw]
   split at aj
   .rename_i v h1 h2
    rw [Ec hC h2]
    simp only [bX,Prod.exists] at aj ⊢
    obtain ⟨ks,x1,x2,hr,rfl⟩:=aj
    exact ⟨ks,x1,x2,LH hC l _ _ _ hr,rfl⟩
   .cases aj
  .rename_i hw
   rw [aA hw]
   simp only [bX,Prod.exists] at aj ⊢
   obtain ⟨ks,x1,x2,hr,rfl⟩:=aj
   exact ⟨ks,x1,x2,LH hC l _ _ _ hr,rfl⟩

theorem CG (hC:yB C C'):Vi (nX P T C) (nX P T C'):=by
 intro ops e h r aj
 unfold nX at aj ⊢
 split at aj
 .rename_i hr
  rw [LH hC _ _ _ _ hr]
  exact aj
 .cases aj

theorem TY {f f':Env->Heap->Option (Ex × Env × Heap)} (hf:∀ e h r,f e h=some r->f' e h=some r):∀ (n m:Nat) (e:Env) (h:Heap) (r:Ex × Env × Heap),n<=m->iter f n e h=some r->iter f' m e h=some r
 |0,_,_,_,_,_,hi=>by simp [iter] at hi
 |n+1,0,_,_,_,hle,_=>by omega
 |n+1,m+1,e,h,r,hle,hi=>by
  simp only [iter] at hi ⊢
  split at hi
  .rename_i e1 h1 h2
   rw [hf _ _ _ h2]
   exact TY hf n m _ _ _ (by omega) hi
  .rename_i aO
   rw [hf _ _ _ hi]
   obtain ⟨x,e1,h1⟩:=r
   cases x with
   |normal=>exact (aO _ _ hi).elim
   |exit id=>rfl
   |ret=>rfl

theorem CF (hC:yB C C') {D D':Array Oper->Env->Heap->Option (Env × Heap)} (hD:Vi D D') {n m:Nat} (oz:n<=m) (rd:Option Nat):∀ (c:Code) (e:Env) (h:Heap) (r:Ex × Env × Heap),du P T C D rd n c e h=some r->du P T C' D' rd m c e h=some r:=by
 intro c
 induction c with
 |skip=>intro e h r aj;exact aj
 |region id ops d =>
  intro e h r aj
  simp only [du,bX,Prod.exists] at aj ⊢
  obtain ⟨e1,h1,hr,rfl⟩:=aj
  refine ⟨e1,h1,?_,rfl⟩
  cases d with
  |true=>simp only [if_true] at hr ⊢;exact hD _ _ _ _ hr
  |false=>simp only [fF,if_false] at hr ⊢;exact LX hC _ _ _ _ hr
 |seq a b gZ hH =>
  intro e h r aj
  simp only [du] at aj ⊢
  split at aj
  .rename_i e1 h1 h2
   rw [gZ _ _ _ h2]
   exact hH _ _ _ aj
  .rename_i aO
   rw [gZ _ _ _ aj]
   obtain ⟨x,e1,h1⟩:=r
   cases x with
   |normal=>exact (aO _ _ aj).elim
   |exit id=>rfl
   |ret=>rfl
 |cond c a b gZ hH =>
  intro e h r aj
  simp only [du] at aj ⊢
  split at aj
  .exact gZ _ _ _ aj
  .exact hH _ _ _ aj
  .cases aj
 |block id c ih =>
  intro e h r aj
  simp only [du] at aj ⊢
  split at aj
  .rename_i i e1 h1 h2
   rw [ih _ _ _ h2]
   exact aj
  .rename_i aO
   rw [ih _ _ _ aj]
   obtain ⟨x,e1,h1⟩:=r
   cases x with
   |normal=>rfl
   |exit id=>exact (aO _ _ _ aj).elim
   |ret=>rfl
 |loop c ih=>intro e h r aj;simp only [du] at aj ⊢;exact TY ih n m _ _ _ oz aj
 |exit id=>intro e h r aj;exact aj
 |ret=>intro e h r aj;exact aj
 |label l=>intro e h r aj;exact aj
 |rangeFunc f ps a b _ _ =>
  intro e h r aj
  simp only [du,EX] at aj ⊢
  split at aj
  .split at aj
   .rename_i hc
    rw [aG hc]
    split at aj
    .rename_i hr;rw [hC _ _ _ _ hr];exact aj
    .cases aj
   .cases aj
  .cases aj
 |scope c ih=>intro e h r aj;exact ih _ _ _ aj
 |goto l=>intro e h r aj;simp [du] at aj
 |refuse s=>intro e h r aj;simp [du] at aj

theorem zpZ (hE:∀ c e h r,E c e h=some r->E' c e h=some r) {A:Nat} {args:List ai} (aj:zR E A args h=some r):zR E' A args h=some r:=by
 unfold zR at aj ⊢
 split at aj
 .split at aj
  .rename_i hc
   simp only [aG hc]
   split at aj
   .rename_i h1
    rw [hE _ _ _ _ h1]
    simp only
    split at aj
    .split at aj
     .rename_i h2;rw [hE _ _ _ _ h2];exact aj
     .rename_i h2;rw [hE _ _ _ _ h2];exact aj
     .rename_i h2;rw [hE _ _ _ _ h2];exact aj
     .cases aj
    .cases aj
   .cases aj
  .cases aj
 .cases aj

theorem ZU {E E':Code->Env->Heap->Option (Ex × Env × Heap)} (hE:∀ c e h r,E c e h=some r->E' c e h=some r):∀ (pre:List Code) (e:Env) (h:Heap) (r:Env × Heap),uJ E pre e h=some r->uJ E' pre e h=some r
 | [],_,_,_,aj=>aj
 |c::cs,e,h,r,aj=>by
  simp only [uJ] at aj ⊢
  split at aj
  .rename_i hr
   rw [hE _ _ _ _ hr]
   exact ZU hE cs _ _ _ aj
  .cases aj
theorem zjg (hE:∀ c e h r,E c e h=some r->E' c e h=some r) {fn:Func} {g:ai} {e3:Env} {h3:Heap} (aj:rI T E fn g e3 h3=some r):rI T E' fn g e3 h3=some r:=by
 unfold rI at aj ⊢
 split at aj
 .simp only [ck] at aj ⊢
  obtain ⟨fg,h1,cg,h2,aj⟩:=aj
  refine ⟨fg,h1,cg,h2,?_⟩
  split at aj
  .rename_i hn
   rw [aG hn]
   split at aj
   .rename_i hr
    rw [hE _ _ _ _ hr]
    exact aj
   .rename_i hr
    rw [hE _ _ _ _ hr]
    exact aj
   .cases aj
  .cases aj
 .cases aj
theorem zpe {C C':Fn->List ai->Heap->Option (ai × Heap)} (hC:yB C C') (hE:∀ c e h r,E c e h=some r->E' c e h=some r) {fn:Func} {c:Code} {e:Env} (aj:zT P T E C fn c e h=some r):zT P T E' C' fn c e h=some r:=by
 unfold zT at aj ⊢
 simp only [ck,Prod.exists] at aj ⊢
 obtain ⟨pre,m,t,rest,cY,aj⟩:=aj
 refine ⟨pre,m,t,rest,cY,?_⟩
 split at aj
 .rename_i hn
  rw [aG hn]
  simp only [ck,Prod.exists] at aj ⊢
  obtain ⟨e1,h1,hp,v1,h2,ho,aj⟩:=aj
  refine ⟨e1,h1,ZU hE _ _ _ _ hp,v1,h2,Ec hC ho,?_⟩
  split at aj
  .rename_i hr
   rw [hE _ _ _ _ hr]
   exact zjg hE aj
  .rename_i hr
   rw [hE _ _ _ _ hr]
   exact zjg hE aj
  .cases aj
 .cases aj
theorem uF {ov:Ov}:∀ (n m:Nat),n<=m->yB (call P T ov n) (call P T ov m)
 |0,_,_=>by intro f args h r aj;simp [call] at aj
 |n+1,0,hle=>by omega
 |n+1,m+1,hle=>by
  intro f args h r aj
  have ih:=uF (ov:=ov) n m (by omega)
  cases f with
  |func f =>
   simp only [call] at aj ⊢
   split at aj
   .exact aj
   .simp only [ck] at aj ⊢
    obtain ⟨fn,kx,c,hc,aj⟩:=aj
    refine ⟨fn,kx,c,hc,?_⟩
    split at aj
    .rename_i wN
     rw [aG wN]
     exact zpe ih (λc e h r hr=>CF ih (CG ih) (by omega) none c e h r hr) aj
    rename_i wN
    rw [aA wN]
    split at aj
    .rename_i hr
     rw [CF ih (CG ih) (by omega) none _ _ _ _ hr]
     exact aj
    .rename_i hr
     rw [CF ih (CG ih) (by omega) none _ _ _ _ hr]
     exact aj
    .cases aj
  |yield A =>
   simp only [call] at aj ⊢
   exact zpZ (λc e h r hr=>CF ih (CG ih) (by omega) (some A) c e h r hr) aj
  |_=>simp [call] at aj
end
end Go.Am
namespace Go.Am
variable {K:aL} {args:List ai} {f:FuncId} {c:Code} {Q:Ex->Env->Heap->Prop}

structure Ext (h h':Heap):Prop where
 size:h.size<=h'.size
 get:∀ A,A < h.size->h'.get A=h.get A
 low:min h.low h.size<=h'.low

theorem Ext.refl (h:Heap):Ext h h:=⟨aS _,λ_ _=>rfl,wk _ _⟩
theorem Ext.trans {a b c:Heap} (h:Ext a b) (k:Ext b c):Ext a c :=
 ⟨dZ h.size k.size,λA hA=>(k.get A (dU hA h.size)).trans (h.get A hA),by have:=h.low;have:=k.low;have:=h.size;omega⟩
theorem Ext.push (h:Heap) (b:bc):Ext h (h.push b):=⟨mx _,λA hA=>by rw [Heap.bS,aA (by omega)],by rw [Heap.fw];omega⟩
theorem Ext.set {h h':Heap} (e:Ext h h') {A:Nat} (hA:h.size<=A) (eG:A < h'.size) (b:bc):Ext h (h'.set A b) :=
 ⟨e.size,λB hB=>by rw [Heap.aM _ _ _ _ eG,aA (by omega)];exact e.get B hB,by rw [Heap.cC];have:=e.low;omega⟩

section
variable (P:Program) (T:bx) (ov:Ov)

def yC (f:Fn) (args:List ai) (h:Heap) (K:aL):Prop:=∃ n v h',call P T ov n f args h=some (v,h')/\K v h'
def Ok (f:FuncId) (args:List ai) (h:Heap) (K:aL):Prop:=yC P T ov (.func f) args h K

def da (r:Option (ai × Heap)) (K:aL):Prop:=match r with
 |some (v,h')=>K v h'
 |none=>False
def Dp (v:ai) (A B:Prop):Prop:=match v with
 | .bool t=>(t=true->A)/\(t=false->B)
 |_=>False
def oF (b:Bool) (A B:Prop):Prop:=if b=true then A else B

def Uz:Fn->List ai->Heap->Option (ai × Heap):=λ_ _ _=>none

def bU (o:Oper) (e:Env) (h:Heap) (K:aL):Prop :=
 match o.op with
 | .call ⟨.value f,args,_⟩=>match br e f with
  | .func (.func g) fi ca=>Ok P T ov g (fi.toList++args.toList.map (br e)++ca.toList) h K
  | .func (.yield A) fi ca=>(fi.isEmpty && ca.isEmpty)=true/\yC P T ov (.yield A) (args.toList.map (br e)) h K
  |_=>False
 | .call ⟨.invoke r name,args,_⟩=>match br e r with
  | .iface t x=>(match MP T t x name h with
   |some (f,y)=>Ok P T ov f (y::args.toList.map (br e)) h K
   |none=>False)
  |_=>False
 |_=>da (gq P T Uz e o h) K

def cM (ops:Array Oper):List Oper->Env->Heap->(Env->Heap->Prop)->Prop
 | [],e,h,Q=>Q e h
 |o::l,e,h,Q=>oF (kU ops o e) (bU P T ov o e h λv h'=>cM ops l (put e o.dst v) h' Q) (cM ops l (put e o.dst undef) h Q)

def bF (ops:Array Oper):List Oper->List Nat->Env->Heap->(List Nat->Env->Heap->Prop)->Prop
 | [],ks,e,h,Q=>Q ks e h
 |o::l,ks,e,h,Q =>
  oF (kU ops o e) (bU P T ov o e { h with low:=h.size } λv h' =>
   bF ops l (ks++[iJ T o e h h']) (put e o.dst v) { h' with low:=min h.low h'.low } Q)
   (bF ops l (ks++[0]) (put e o.dst undef) h Q)

def dv (W:Env->Heap->(Ex->Env->Heap->Prop)->Prop) (Q:Ex->Env->Heap->Prop):Nat->Env->Heap->Prop
 |0,_,_=>False
 |n+1,e,h=>W e h fun
  | .normal,e',h'=>dv W Q n e' h'
  |x,e',h'=>Q x e' h'

def Ku (r:Option (Ex × Env × Heap)) (Q:Ex->Env->Heap->Prop):Prop:=match r with
 |some (x,e,h)=>Q x e h
 |none=>False
def EY (rd:Option Nat) (g:ai) (ps:List Tmp) (assign body:Code) (e:Env) (h:Heap) (Q:Ex->Env->Heap->Prop):Prop :=
 match g with
 | .func (.func f) fi ca=>(Uj rd h && UL T f)=true /\
  Ok P T ov f (fi.toList++[.func (.yield h.size) #[] #[]]++ca.toList) (h.push (.loop e ps assign body .ready none)) λ_ h2=>Ku (Ej h.size e h2) Q
 |_=>False
def W (rd:Option Nat):Code->Env->Heap->(Ex->Env->Heap->Prop)->Prop
 | .skip,e,h,Q=>Q .normal e h
 | .region _ ops false,e,h,Q=>cM P T ov ops ops.toList e h (Q .normal)
 | .region _ ops true,e,h,Q=>bF P T ov ops ops.toList [] e h λks e' h'=>Da ops ks (kV ops.toList [])=true/\Q .normal e' h'
 | .seq a b,e,h,Q=>W rd a e h fun
  | .normal,e',h'=>W rd b e' h' Q
  |x,e',h'=>Q x e' h'
 | .cond c a b,e,h,Q=>Dp (br e c) (W rd a e h Q) (W rd b e h Q)
 | .block id c,e,h,Q=>W rd c e h fun
  | .exit i,e',h'=>if i=id then Q .normal e' h' else Q (.exit i) e' h'
  |x,e',h'=>Q x e' h'
 | .loop c,e,h,Q=>∃ n,dv (W rd c) Q n e h
 | .exit id,e,h,Q=>Q (.exit id) e h
 | .ret,e,h,Q=>Q .ret e h
 | .label _,e,h,Q=>Q .normal e h
 | .scope c,e,h,Q=>W rd c e h Q
 | .rangeFunc g ps assign body,e,h,Q=>EY P T ov rd (br e g) ps.toList assign body e h Q
 |_,_,_,_=>False
end

section
variable {P:Program} {T:bx} {ov:Ov} {rd:Option Nat}

theorem yC.mono {f:Fn} {h:Heap} {K':aL} (hk:yC P T ov f args h K) (hm:∀ v h',K v h'->K' v h'):yC P T ov f args h K':=by
 obtain ⟨n,v,h',h1,h2⟩:=hk
 exact ⟨n,v,h',h1,hm v h' h2⟩
theorem Ok.mono {h:Heap} {K':aL} (hk:Ok P T ov f args h K) (hm:∀ v h',K v h'->K' v h'):Ok P T ov f args h K':=by
 obtain ⟨n,v,h',h1,h2⟩:=hk
 exact ⟨n,v,h',h1,hm v h' h2⟩

theorem zsQ (C:Fn->List ai->Heap->Option (ai × Heap)):yB Uz C:=by intro f args h r hr;cases hr

theorem bU.sound {o:Oper} {e:Env} {h:Heap} (hw:bU P T ov o e h K):∃ n v h',gq P T (call P T ov n) e o h=some (v,h')/\K v h':=by
 unfold bU at hw
 split at hw
 .rename_i f args fY aN
  split at hw
  .rename_i g fi ca hf
   obtain ⟨n,v,h',h1,h2⟩:=hw
   refine ⟨n,v,h',?_,h2⟩
   unfold gq
   simp only [aN,hf]
   exact h1
  .rename_i A fi ca hf
   obtain ⟨hc,n,v,h',h1,h2⟩:=hw
   refine ⟨n,v,h',?_,h2⟩
   unfold gq
   simp only [aN,hf]
   rw [aG hc]
   exact h1
  .exact hw.elim
 .rename_i r name args fY aN
  split at hw
  .rename_i t x hr
   split at hw
   .rename_i f y hm
    obtain ⟨n,v,h',h1,h2⟩:=hw
    refine ⟨n,v,h',?_,h2⟩
    unfold gq
    simp only [aN,hr,hm]
    exact h1
   .exact hw.elim
  .exact hw.elim
 .unfold da at hw
  split at hw
  .rename_i v h' h1
   exact ⟨0,v,h',Ec (zsQ _) h1,hw⟩
  .exact hw.elim

theorem cM.sound {ops:Array Oper}:∀ (l:List Oper) (e:Env) (h:Heap) (Q:Env->Heap->Prop),cM P T ov ops l e h Q->∃ n e' h',pF P T (call P T ov n) ops l e h=some (e',h')/\Q e' h'
 | [],e,h,Q,hw=>⟨0,e,h,rfl,hw⟩
 |o::l,e,h,Q,hw=>by
  simp only [cM,oF] at hw
  split at hw
  .rename_i eY
   obtain ⟨n,v,h1,h2,h3⟩:=bU.sound hw
   obtain ⟨m,e',h',h4,h5⟩:=cM.sound l _ _ _ h3
   refine ⟨max n m,e',h',?_,h5⟩
   simp only [pF,eY,if_true]
   rw [Ec (uF n (max n m) (Dr _ _)) h2]
   exact LX (uF m (max n m) (Dm _ _)) _ _ _ _ h4
  .rename_i eY
   obtain ⟨m,e',h',h4,h5⟩:=cM.sound l _ _ _ hw
   refine ⟨m,e',h',?_,h5⟩
   simp only [pF]
   rw [aA eY]
   exact h4

theorem bF.sound {ops:Array Oper}:∀ (l:List Oper) (ks:List Nat) (e:Env) (h:Heap) (Q:List Nat->Env->Heap->Prop),bF P T ov ops l ks e h Q ->
 ∃ n dD e' h',oD P T (call P T ov n) ops l e h=some (dD,e',h')/\Q (ks++dD) e' h'
 | [],ks,e,h,Q,hw=>⟨0,[],e,h,rfl,by rw [bu];exact hw⟩
 |o::l,ks,e,h,Q,hw=>by
  simp only [bF,oF] at hw
  split at hw
  .rename_i eY
   obtain ⟨n,v,h1,h2,h3⟩:=bU.sound hw
   obtain ⟨m,dD,e',h',h4,h5⟩:=bF.sound l _ _ _ _ h3
   refine ⟨max n m,_::dD,e',h',?_,by rw [uX] at h5;exact h5⟩
   simp only [oD,eY,if_true]
   rw [Ec (uF n (max n m) (Dr _ _)) h2]
   simp only [LH (uF m (max n m) (Dm _ _)) _ _ _ _ h4,jT]
  .rename_i eY
   obtain ⟨m,dD,e',h',h4,h5⟩:=bF.sound l _ _ _ _ hw
   refine ⟨m,0::dD,e',h',?_,by rw [uX] at h5;exact h5⟩
   simp only [oD]
   rw [aA eY,h4]
   rfl

theorem dv.mono {W:Env->Heap->(Ex->Env->Heap->Prop)->Prop} (hW:∀ e h Q Q',(∀ x e h,Q x e h->Q' x e h)->W e h Q->W e h Q') {Q Q':Ex->Env->Heap->Prop} (hq:∀ x e h,Q x e h->Q' x e h):∀ (n:Nat) (e:Env) (h:Heap),dv W Q n e h->dv W Q' n e h
 |0,_,_,hw=>hw
 |n+1,e,h,hw=>by
  simp only [dv] at hw ⊢
  refine hW _ _ _ _ ?_ hw
  intro x e' h'
  cases x with
  |normal=>exact dv.mono hW hq n e' h'
  |exit id=>exact hq _ _ _
  |ret=>exact hq _ _ _

theorem W.sound:∀ (c:Code) (e:Env) (h:Heap) (Q:Ex->Env->Heap->Prop),W P T ov rd c e h Q->∃ n x e' h',du P T (call P T ov n) (nX P T (call P T ov n)) rd n c e h=some (x,e',h')/\Q x e' h':=by
 intro c
 have lift:∀ {n m:Nat} (c:Code) (e:Env) (h:Heap) (r:Ex × Env × Heap),n<=m->du P T (call P T ov n) (nX P T (call P T ov n)) rd n c e h=some r->du P T (call P T ov m) (nX P T (call P T ov m)) rd m c e h=some r :=
  λc e h r oz=>CF (uF _ _ oz) (CG (uF _ _ oz)) oz rd c e h r
 induction c with
 |skip=>intro e h Q hw;exact ⟨0,.normal,e,h,rfl,hw⟩
 |region id ops d =>
  intro e h Q hw
  cases d with
  |false =>
   simp only [W] at hw
   obtain ⟨n,e',h',h1,h2⟩:=cM.sound _ _ _ _ hw
   exact ⟨n,.normal,e',h',by simp [du,h1],h2⟩
  |true =>
   simp only [W] at hw
   obtain ⟨n,ks,e',h',h1,h2,h3⟩:=bF.sound _ _ _ _ _ hw
   rw [yy] at h2
   refine ⟨n,.normal,e',h',?_,h3⟩
   simp [du,nX,h1,h2]
 |seq a b gZ hH =>
  intro e h Q hw
  simp only [W] at hw
  obtain ⟨n,x,e1,h1,h2,h3⟩:=gZ _ _ _ hw
  cases x with
  |normal =>
   obtain ⟨m,x,e2,h4,h5,h6⟩:=hH _ _ _ h3
   refine ⟨max n m,x,e2,h4,?_,h6⟩
   simp only [du]
   rw [lift a e h _ (Dr n m) h2]
   exact lift b _ _ _ (Dm n m) h5
  |exit id=>exact ⟨n,.exit id,e1,h1,by simp only [du];rw [h2],h3⟩
  |ret=>exact ⟨n,.ret,e1,h1,by simp only [du];rw [h2],h3⟩
 |cond c a b gZ hH =>
  intro e h Q hw
  simp only [W,Dp] at hw
  split at hw
  .rename_i t ht
   cases t with
   |true =>
    obtain ⟨n,x,e1,h1,h2,h3⟩:=gZ _ _ _ (hw.1 rfl)
    exact ⟨n,x,e1,h1,by simp only [du,ht];exact h2,h3⟩
   |false =>
    obtain ⟨n,x,e1,h1,h2,h3⟩:=hH _ _ _ (hw.2 rfl)
    exact ⟨n,x,e1,h1,by simp only [du,ht];exact h2,h3⟩
  .exact hw.elim
 |block id c ih =>
  intro e h Q hw
  simp only [W] at hw
  obtain ⟨n,x,e1,h1,h2,h3⟩:=ih _ _ _ hw
  cases x with
  |normal=>exact ⟨n,.normal,e1,h1,by simp only [du];rw [h2],h3⟩
  |exit i =>
   by_cases hi:i=id
   .exact ⟨n,.normal,e1,h1,by simp only [du,h2,aG hi],by simpa only [aG hi] using h3⟩
   .exact ⟨n,.exit i,e1,h1,by simp only [du,h2,aA hi],by simpa only [aA hi] using h3⟩
  |ret=>exact ⟨n,.ret,e1,h1,by simp only [du];rw [h2],h3⟩
 |loop c ih =>
  intro e h Q hw
  simp only [W] at hw
  obtain ⟨k,hw⟩:=hw
  have key:∀ (k:Nat) (e:Env) (h:Heap),dv (W P T ov rd c) Q k e h->∃ n x e' h',iter (du P T (call P T ov n) (nX P T (call P T ov n)) rd n c) n e h=some (x,e',h')/\Q x e' h':=by
   intro k
   induction k with
   |zero=>intro e h hw;exact hw.elim
   |succ k ld =>
    intro e h hw
    simp only [dv] at hw
    obtain ⟨n,x,e1,h1,h2,h3⟩:=ih _ _ _ hw
    cases x with
    |normal =>
     obtain ⟨m,x,e2,h4,h5,h6⟩:=ld _ _ h3
     refine ⟨max n m+1,x,e2,h4,?_,h6⟩
     simp only [iter]
     rw [lift c e h _ (show n<=max n m+1 by omega) h2]
     exact TY (λe h r hr=>lift c e h r (show m<=max n m+1 by omega) hr) m (max n m) _ _ _ (Dm _ _) h5
    |exit id=>exact ⟨n+1,.exit id,e1,h1,by simp only [iter];rw [lift c e h _ (mx n) h2],h3⟩
    |ret=>exact ⟨n+1,.ret,e1,h1,by simp only [iter];rw [lift c e h _ (mx n) h2],h3⟩
  obtain ⟨n,x,e',h',h1,h2⟩:=key k e h hw
  exact ⟨n,x,e',h',by simp only [du];exact h1,h2⟩
 |exit id=>intro e h Q hw;exact ⟨0,.exit id,e,h,rfl,hw⟩
 |ret=>intro e h Q hw;exact ⟨0,.ret,e,h,rfl,hw⟩
 |label l=>intro e h Q hw;exact ⟨0,.normal,e,h,rfl,hw⟩
 |rangeFunc g ps a b _ _ =>
  intro e h Q hw
  simp only [W,EY] at hw
  split at hw
  .rename_i f fi ca hg
   obtain ⟨hc,n,v,h1,h2,h3⟩:=hw
   unfold Ku at h3
   split at h3
   .rename_i x e' h' h4
    refine ⟨n,x,e',h',?_,h3⟩
    simp only [du,EX,hg]
    rw [aG hc,h2]
    exact h4
   .exact h3.elim
  .exact hw.elim
 |scope c ih=>intro e h Q hw;exact ih _ _ _ hw
 |goto l=>intro e h Q hw;exact hw.elim
 |refuse s=>intro e h Q hw;exact hw.elim

theorem Ok.enter {fn:Func} {h:Heap} (ho:ov f=none) (hf:T.fn f=some fn) (hc:fn.body=some c) (wN:T.Gc f=false)
 (hw:W P T ov none c (args++List.replicate (fn.ntmps - args.length) undef) h λx e' h'=>(x=.ret\/x=.normal)/\∃ v,lL T fn e' h'=some v/\K v h'):Ok P T ov f args h K:=by
 obtain ⟨n,x,e',h',h1,hx,v,h2,h3⟩:=W.sound _ _ _ _ hw
 refine ⟨n+1,v,h',?_,h3⟩
 simp only [call,ho,hf,hc,dz,h1,wN,fF,if_false]
 rcases hx with rfl|rfl <;> simp [h2]

def aad (P:Program) (T:bx) (ov:Ov):List Code->Env->Heap->(Env->Heap->Prop)->Prop
 | [],e,h,Q=>Q e h
 |c::cs,e,h,Q=>W P T ov none c e h λx e' h'=>x=.normal/\aad P T ov cs e' h' Q
theorem aad.sound:∀ (pre:List Code) (e:Env) (h:Heap) (Q:Env->Heap->Prop),aad P T ov pre e h Q->∃ n e' h',uJ (du P T (call P T ov n) (nX P T (call P T ov n)) none n) pre e h=some (e',h')/\Q e' h'
 | [],e,h,Q,hw=>⟨0,e,h,rfl,hw⟩
 |c::cs,e,h,Q,hw=>by
  simp only [aad] at hw
  obtain ⟨n,x,e1,h1,r1,rfl,hw⟩:=W.sound _ _ _ _ hw
  obtain ⟨k,e2,h2,r2,hq⟩:=aad.sound cs e1 h1 Q hw
  refine ⟨max n k,e2,h2,?_,hq⟩
  simp only [uJ]
  rw [CF (uF _ _ (Dr n k)) (CG (uF _ _ (Dr n k))) (Dr n k) none _ _ _ _ r1]
  exact ZU (λc e h r=>CF (uF _ _ (Dm n k)) (CG (uF _ _ (Dm n k))) (Dm n k) none c e h r) _ _ _ _ r2

theorem yC.round {A:Nat} {env:List ai} {ps:List Tmp} {assign body:Code} {st:LoopState} {eF:Option Code} {h:Heap} (hg:h.get A=some (.loop env ps assign body st eF)) (hl:args.length=ps.length)
 (hw:W P T ov (some A) assign (gK env ps args) h λx e1 h1=>x=.normal/\∃ oT Cq NH NI iX,h1.get A=some (.loop oT Cq NH NI .ready iX) /\
  W P T ov (some A) body e1 (h1.set A (.loop oT Cq NH NI .busy iX)) λx _ h2=>da (zC A (match x with | .normal=>none | .ret=>some .ret | .exit id=>some (.exit id)) h2) K):yC P T ov (.yield A) args h K:=by
 obtain ⟨n,x,e1,h1,r1,rfl,oT,Cq,NH,NI,iX,r2,hw⟩:=W.sound _ _ _ _ hw
 obtain ⟨m,x,e2,h2,r3,hk⟩:=W.sound _ _ _ _ hw
 unfold da at hk
 split at hk
 .rename_i v h' r4
  refine ⟨max n m+1,v,h',?_,hk⟩
  have l1:=CF (P:=P) (T:=T) (uF (ov:=ov) n (max n m) (Dr _ _)) (CG (uF n (max n m) (Dr _ _))) (Dr n m) (some A) _ _ _ _ r1
  have l2:=CF (P:=P) (T:=T) (uF (ov:=ov) m (max n m) (Dm _ _)) (CG (uF m (max n m) (Dm _ _))) (Dm n m) (some A) _ _ _ _ r3
  simp only [call,zR,hg,hl,if_true,l1,r2,l2]
  cases x <;> exact r4
 .exact hk.elim

theorem Ok.over {g:List ai->Heap->Option (ai × Heap)} {h h':Heap} {v:ai} (ho:ov f=some g) (hg:g args h=some (v,h')) (hk:K v h'):Ok P T ov f args h K :=
 ⟨1,v,h',by simp [call,ho,hg],hk⟩

theorem W.loop {c:Code} {e:Env} {h:Heap} {Q:Ex->Env->Heap->Prop} (I:Env->Heap->Prop) (μ:Env->Heap->Nat) (h0:I e h)
 (round:∀ e h,I e h->W P T ov rd c e h λx e' h'=>match x with | .normal=>I e' h'/\μ e' h' < μ e h|x=>Q x e' h') (hm:∀ e h Q Q',(∀ x e h,Q x e h->Q' x e h)->W P T ov rd c e h Q->W P T ov rd c e h Q'):W P T ov rd (.loop c) e h Q:=by
 have key:∀ (n:Nat) (e:Env) (h:Heap),μ e h < n->I e h->dv (W P T ov rd c) Q n e h:=by
  intro n
  induction n with
  |zero=>intro e h hn;omega
  |succ n ih =>
   intro e h hn hI
   simp only [dv]
   refine hm _ _ _ _ ?_ (round e h hI)
   intro x e' h'
   cases x with
   |normal=>exact λhh=>ih e' h' (by omega) hh.1
   |exit i=>exact λhh=>hh
   |ret=>exact λhh=>hh
 exact ⟨μ e h+1,key _ e h (pP _) h0⟩

theorem bU.mono {o:Oper} {e:Env} {h:Heap} {K K':aL} (hk:∀ v h',K v h'->K' v h') (hw:bU P T ov o e h K):bU P T ov o e h K':=by
 unfold bU at hw ⊢
 split at hw
 .split at hw
  .exact hw.mono hk
  .exact ⟨hw.1,hw.2.mono hk⟩
  .exact hw.elim
 .split at hw
  .split at hw
   .exact hw.mono hk
   .exact hw.elim
  .exact hw.elim
 .unfold da at hw ⊢
  split at hw
  .rename_i v h' h1;exact hk v h' hw
  .exact hw.elim
theorem cM.mono {ops:Array Oper}:∀ (l:List Oper) (e:Env) (h:Heap) (Q Q':Env->Heap->Prop),(∀ e h,Q e h->Q' e h)->cM P T ov ops l e h Q->cM P T ov ops l e h Q'
 | [],_,_,_,_,hq,hw=>hq _ _ hw
 |o::l,e,h,Q,Q',hq,hw=>by
  simp only [cM,oF] at hw ⊢
  split at hw
  .rename_i eY;rw [aG eY];exact bU.mono (λv h'=>cM.mono l _ _ _ _ hq) hw
  .rename_i eY;rw [aA eY];exact cM.mono l _ _ _ _ hq hw
theorem bF.mono {ops:Array Oper}:∀ (l:List Oper) (ks:List Nat) (e:Env) (h:Heap) (Q Q':List Nat->Env->Heap->Prop),(∀ ks e h,Q ks e h->Q' ks e h)->bF P T ov ops l ks e h Q->bF P T ov ops l ks e h Q'
 | [],_,_,_,_,_,hq,hw=>hq _ _ _ hw
 |o::l,ks,e,h,Q,Q',hq,hw=>by
  simp only [bF,oF] at hw ⊢
  split at hw
  .rename_i eY;rw [aG eY];exact bU.mono (λv h'=>bF.mono l _ _ _ _ _ hq) hw
  .rename_i eY;rw [aA eY];exact bF.mono l _ _ _ _ _ hq hw
theorem W.mono:∀ (c:Code) (e:Env) (h:Heap) (Q Q':Ex->Env->Heap->Prop),(∀ x e h,Q x e h->Q' x e h)->W P T ov rd c e h Q->W P T ov rd c e h Q':=by
 intro c
 induction c with
 |skip=>intro e h Q Q' hq hw;exact hq _ _ _ hw
 |region id ops d =>
  intro e h Q Q' hq hw
  cases d with
  |false=>exact cM.mono _ _ _ _ _ (hq _) hw
  |true=>exact bF.mono _ _ _ _ _ _ (λks e h hh=>⟨hh.1,hq _ _ _ hh.2⟩) hw
 |seq a b gZ hH =>
  intro e h Q Q' hq hw
  simp only [W] at hw ⊢
  refine gZ _ _ _ _ ?_ hw
  intro x e' h'
  cases x with
  |normal=>exact hH _ _ _ _ hq
  |exit id=>exact hq _ _ _
  |ret=>exact hq _ _ _
 |cond c a b gZ hH =>
  intro e h Q Q' hq hw
  simp only [W,Dp] at hw ⊢
  split at hw
  .exact ⟨λht=>gZ _ _ _ _ hq (hw.1 ht),λht=>hH _ _ _ _ hq (hw.2 ht)⟩
  .exact hw.elim
 |block id c ih =>
  intro e h Q Q' hq hw
  simp only [W] at hw ⊢
  refine ih _ _ _ _ ?_ hw
  intro x e' h'
  cases x with
  |normal=>exact hq _ _ _
  |exit i =>
   intro hh
   by_cases hi:i=id
   .simp only [aG hi] at hh ⊢;exact hq _ _ _ hh
   .simp only [aA hi] at hh ⊢;exact hq _ _ _ hh
  |ret=>exact hq _ _ _
 |loop c ih =>
  intro e h Q Q' hq hw
  simp only [W] at hw ⊢
  obtain ⟨n,hw⟩:=hw
  exact ⟨n,dv.mono ih hq n e h hw⟩
 |exit id=>intro e h Q Q' hq hw;exact hq _ _ _ hw
 |ret=>intro e h Q Q' hq hw;exact hq _ _ _ hw
 |label l=>intro e h Q Q' hq hw;exact hq _ _ _ hw
 |rangeFunc g ps a b _ _ =>
  intro e h Q Q' hq hw
  simp only [W,EY] at hw ⊢
  split at hw
  .refine ⟨hw.1,hw.2.mono λv h2 hh=>?_⟩
   unfold Ku at hh ⊢
   split at hh
   .exact hq _ _ _ hh
   .exact hh.elim
  .exact hw.elim
 |scope c ih=>intro e h Q Q' hq hw;exact ih _ _ _ _ hq hw
 |goto l=>intro e h Q Q' hq hw;exact hw.elim
 |refuse s=>intro e h Q Q' hq hw;exact hw.elim

theorem aad.mono:∀ (pre:List Code) (e:Env) (h:Heap) (Q Q':Env->Heap->Prop),(∀ e h,Q e h->Q' e h)->aad P T ov pre e h Q->aad P T ov pre e h Q'
 | [],e,h,_,_,hq,hw=>hq e h hw
 |c::cs,_,_,Q,Q',hq,hw=>W.mono c _ _ _ _ (λ_ e' h' ⟨h1,h2⟩=>⟨h1,aad.mono cs e' h' Q Q' hq h2⟩) hw
theorem W.H3 {e:Env} {h:Heap} (I:Env->Heap->Prop) (μ:Env->Heap->Nat) (h0:I e h)
 (round:∀ e h,I e h->W P T ov rd c e h λx e' h'=>match x with | .normal=>I e' h'/\μ e' h' < μ e h|x=>Q x e' h'):W P T ov rd (.loop c) e h Q:=W.loop I μ h0 round (W.mono c)
structure Hid (p:Prop):Prop where
 out:p
theorem UZ (p:Prop):Hid p=p:=propext ⟨Hid.out,Hid.mk⟩
section
variable (P:Program) (T:bx) (ov:Ov) (rd:Option Nat)
def sC (ops:Array Oper) (l:List Oper) (d:Option Tmp) (Q:Env->Heap->Prop) (e:Env):aL:=λv h'=>Hid (cM P T ov ops l (put e d v) h' Q)
def Ng (ops:Array Oper) (o:Oper) (l:List Oper) (e:Env) (h:Heap) (Q:Env->Heap->Prop) (b:Bool):Prop:=if b=true then bU P T ov o e h (sC P T ov ops l o.dst Q e) else cM P T ov ops l (put e o.dst undef) h Q
def C4 (a b:Code) (e:Env) (h:Heap) (Q:Ex->Env->Heap->Prop) (v:ai):Prop:=Dp v (W P T ov rd a e h Q) (W P T ov rd b e h Q)
def Ae (b:Code) (Q:Ex->Env->Heap->Prop):Ex->Env->Heap->Prop
 | .normal,e',h'=>W P T ov rd b e' h' Q
 | .exit i,e',h'=>Q (.exit i) e' h'
 | .ret,e',h'=>Q .ret e' h'
def uN (id:Nat) (Q:Ex->Env->Heap->Prop):Ex->Env->Heap->Prop
 | .normal,e',h'=>Q .normal e' h'
 | .exit i,e',h'=>if i=id then Q .normal e' h' else Q (.exit i) e' h'
 | .ret,e',h'=>Q .ret e' h'
def Na (Q:Ex->Env->Heap->Prop):Env->Heap->Prop:=Q .normal
def zAQ (ops:Array Oper) (Q:Ex->Env->Heap->Prop):List Nat->Env->Heap->Prop:=λks e' h'=>Da ops ks (kV ops.toList [])=true/\Q .normal e' h'
def dM (fn:Func) (K:aL):Ex->Env->Heap->Prop:=λx e' h'=>(x=.ret\/x=.normal)/\∃ v,lL T fn e' h'=some v/\K v h'
def yu (e:Env):List Operand->List ai
 | []=>[]
 |x::xs=>br e x::yu e xs
def MM (o:Oper):Bool:=match o.op with
 | .call ⟨.value _,_,_⟩=>true
 | .call ⟨.invoke _ _,_,_⟩=>true
 |_=>false
def uU (args:List ai) (h:Heap) (K:aL) (v:ai):Prop:=match v with
 | .func (.func g) fi ca=>Ok P T ov g (fi.toList++args++ca.toList) h K
 | .func (.yield A) fi ca=>(fi.isEmpty && ca.isEmpty)=true/\yC P T ov (.yield A) args h K
 |_=>False
end

theorem MB (e:Env):∀ xs:List Operand,xs.map (br e)=yu e xs
 | []=>rfl
 |x::xs=>by rw [pR,yu,MB e xs]
theorem zt3 (e:Env):yu e []=[]:=rfl
theorem zr0 (e:Env) (x:Operand) (xs:List Operand):yu e (x::xs)=br e x::yu e xs:=rfl
theorem zvw (v:ai) (h:Heap) (K:aL):da (some (v,h)) K=K v h:=rfl
theorem zwj (ops:Array Oper) (e:Env) (h:Heap) (Q:Env->Heap->Prop):cM P T ov ops [] e h Q=Q e h:=rfl
theorem zmL (ops:Array Oper) (o:Oper) (l:List Oper) (e:Env) (h:Heap) (Q:Env->Heap->Prop):cM P T ov ops (o::l) e h Q=Ng P T ov ops o l e h Q (kU ops o e):=by
 simp only [cM,oF,Ng]
 split
 .exact propext ⟨bU.mono λ_ _ hw=>⟨hw⟩,bU.mono λ_ _ hw=>hw.out⟩
 .rfl
theorem zto (ops:Array Oper) (o:Oper) (l:List Oper) (e:Env) (h:Heap) (Q:Env->Heap->Prop):Ng P T ov ops o l e h Q true=bU P T ov o e h (sC P T ov ops l o.dst Q e):=rfl
theorem zqc (ops:Array Oper) (o:Oper) (l:List Oper) (e:Env) (h:Heap) (Q:Env->Heap->Prop):Ng P T ov ops o l e h Q false=cM P T ov ops l (put e o.dst undef) h Q:=rfl
theorem zwg (ops:Array Oper) (l:List Oper) (d:Option Tmp) (Q:Env->Heap->Prop) (e:Env) (v:ai) (h:Heap):sC P T ov ops l d Q e v h=cM P T ov ops l (put e d v) h Q:=UZ _
theorem zwi {o:Oper} {e:Env} {h:Heap} (hc:MM o=false):bU P T ov o e h K=da (gq P T Uz e o h) K:=by
 unfold bU
 split
 .rename_i aN;simp [MM,aN] at hc
 .rename_i aN;simp [MM,aN] at hc
 .rfl
theorem zwh (d:Option Tmp) (f:Operand) (args:List Operand) (fY:Array TypeId) (ty:TypeId) (pos:String) (af:Array Edge) (g:Option (Nat × Bool)) (e:Env) (h:Heap) (K:aL) :
 bU P T ov ⟨d,.call ⟨.value f,⟨args⟩,fY⟩,ty,pos,af,g⟩ e h K=uU P T ov (yu e args) h K (br e f):=by
 rw [<- MB];rfl
theorem vL (g:FuncId) (args:List ai) (h:Heap) (K:aL):uU P T ov args h K (.func (.func g) #[] #[])=Ok P T ov g args h K:=by
 simp [uU]
theorem CK (g:FuncId) (fi ca:Array ai) (args:List ai) (h:Heap) (K:aL):uU P T ov args h K (.func (.func g) fi ca)=Ok P T ov g (fi.toList++args++ca.toList) h K:=rfl
theorem zzY (e:Env) (h:Heap) (Q:Ex->Env->Heap->Prop):W P T ov rd .skip e h Q=Q .normal e h:=rfl
theorem zwl (id:Nat) (ops:List Oper) (e:Env) (h:Heap) (Q:Ex->Env->Heap->Prop):W P T ov rd (.region id ⟨ops⟩ false) e h Q=cM P T ov ⟨ops⟩ ops e h (Na Q):=rfl
theorem zvd (Q:Ex->Env->Heap->Prop) (e:Env) (h:Heap):Na Q e h=Q .normal e h:=rfl
theorem zzX (a b:Code) (e:Env) (h:Heap) (Q:Ex->Env->Heap->Prop):W P T ov rd (.seq a b) e h Q=W P T ov rd a e h (Ae P T ov rd b Q):=by
 simp only [W]
 congr 1
 funext x e' h'
 cases x <;> rfl
theorem ztW (id:Nat) (c:Code) (e:Env) (h:Heap) (Q:Ex->Env->Heap->Prop):W P T ov rd (.block id c) e h Q=W P T ov rd c e h (uN id Q):=by
 simp only [W]
 congr 1
 funext x e' h'
 cases x <;> rfl
theorem zzU (c:Operand) (a b:Code) (e:Env) (h:Heap) (Q:Ex->Env->Heap->Prop):W P T ov rd (.cond c a b) e h Q=C4 P T ov rd a b e h Q (br e c):=rfl
theorem zsl (a b:Code) (e:Env) (h:Heap) (Q:Ex->Env->Heap->Prop):C4 P T ov rd a b e h Q (.bool true)=W P T ov rd a e h Q:=by simp [C4,Dp]
theorem zpa (a b:Code) (e:Env) (h:Heap) (Q:Ex->Env->Heap->Prop):C4 P T ov rd a b e h Q (.bool false)=W P T ov rd b e h Q:=by simp [C4,Dp]
theorem zzV (id:Nat) (e:Env) (h:Heap) (Q:Ex->Env->Heap->Prop):W P T ov rd (.exit id) e h Q=Q (.exit id) e h:=rfl
theorem zAN (e:Env) (h:Heap) (Q:Ex->Env->Heap->Prop):W P T ov rd .ret e h Q=Q .ret e h:=rfl
theorem zyv (l:Nat) (e:Env) (h:Heap) (Q:Ex->Env->Heap->Prop):W P T ov rd (.label l) e h Q=Q .normal e h:=rfl
theorem zor (b:Code) (Q:Ex->Env->Heap->Prop) (e:Env) (h:Heap):Ae P T ov rd b Q .normal e h=W P T ov rd b e h Q:=rfl
theorem ztx (b:Code) (Q:Ex->Env->Heap->Prop) (i:Nat) (e:Env) (h:Heap):Ae P T ov rd b Q (.exit i) e h=Q (.exit i) e h:=rfl
theorem zv0 (b:Code) (Q:Ex->Env->Heap->Prop) (e:Env) (h:Heap):Ae P T ov rd b Q .ret e h=Q .ret e h:=rfl
theorem zls (id:Nat) (Q:Ex->Env->Heap->Prop) (e:Env) (h:Heap):uN id Q .normal e h=Q .normal e h:=rfl
theorem zo2 (id:Nat) (Q:Ex->Env->Heap->Prop) (e:Env) (h:Heap):uN id Q (.exit id) e h=Q .normal e h:=by simp [uN]
theorem zkf (id i:Nat) (Q:Ex->Env->Heap->Prop) (e:Env) (h:Heap) (hi:(i == id)=false):uN id Q (.exit i) e h=Q (.exit i) e h:=by
 have:i≠id:=by simpa using hi
 simp [uN,this]
theorem zr9 (id:Nat) (Q:Ex->Env->Heap->Prop) (e:Env) (h:Heap):uN id Q .ret e h=Q .ret e h:=rfl
theorem Ok.R1 {fn:Func} {h:Heap} (ho:ov f=none) (hf:T.fn f=some fn) (hc:fn.body=some c) (wN:T.Gc f=false) {m:Nat} (hm:fn.ntmps - args.length=m)
 (hw:W P T ov none c (args++List.replicate m undef) h (dM T fn K)):Ok P T ov f args h K:=Ok.enter ho hf hc wN (by rw [hm];exact hw)
def M9 (I:Env->Heap->Prop) (μ:Env->Heap->Nat) (e:Env) (h:Heap) (Q:Ex->Env->Heap->Prop):Ex->Env->Heap->Prop
 | .normal,e',h'=>I e' h'/\μ e' h' < μ e h
 | .exit i,e',h'=>Q (.exit i) e' h'
 | .ret,e',h'=>Q .ret e' h'
theorem zsL (I:Env->Heap->Prop) (μ:Env->Heap->Nat) (e:Env) (h:Heap) (Q:Ex->Env->Heap->Prop) (i:Nat) (e':Env) (h':Heap):M9 I μ e h Q (.exit i) e' h'=Q (.exit i) e' h':=rfl
theorem zu4 (I:Env->Heap->Prop) (μ:Env->Heap->Nat) (e:Env) (h:Heap) (Q:Ex->Env->Heap->Prop) (e':Env) (h':Heap):M9 I μ e h Q .ret e' h'=Q .ret e' h':=rfl
theorem znH {I:Env->Heap->Prop} {μ:Env->Heap->Nat} {e:Env} {h:Heap} {e':Env} {h':Heap} (h1:I e' h') (h2:μ e' h' < μ e h):M9 I μ e h Q .normal e' h':=⟨h1,h2⟩
theorem zzW {e:Env} {h:Heap} (I:Env->Heap->Prop) (μ:Env->Heap->Nat) (h0:I e h) (round:∀ e h,I e h->W P T ov rd c e h (M9 I μ e h Q)):W P T ov rd (.loop c) e h Q :=
 W.H3 I μ h0 λe h hI=>W.mono c e h _ _ (λx e' h' hh=>by cases x <;> exact hh) (round e h hI)

section
variable (C:Fn->List ai->Heap->Option (ai × Heap)) (d:Option Tmp) (ty:TypeId) (pos:String) (af:Array Edge) (g:Option (Nat × Bool)) (e:Env) (h:Heap)
def zBw (c a b:ai) (h:Heap):Option (ai × Heap):=match c with | .bool t=>some (if t then a else b,h)|_=>none
def Sg (v:ai) (h:Heap):Option (ai × Heap):=match v with
 | .pointer (some a)=>some (.pointer (some a),h)
 | .func (.func f) a b=>some (.func (.func f) a b,h)
 | .iface t a=>some (.iface t a,h)
 |_=>none
def SH (v:ai) (i:Nat) (h:Heap):Option (ai × Heap):=match v with | .tuple vs=>(vs[i]?).map λr=>(r,h)|_=>none
end
theorem zwb (ops:Array Oper) (d:Option Tmp) (op:Op) (ty:TypeId) (pos:String) (af:Array Edge) (e:Env):kU ops ⟨d,op,ty,pos,af,none⟩ e=true:=rfl
def yk (v:ai) (b:Bool):Bool:=match v with | .bool c=>c == b|_=>false

theorem zM {op:BinOp} {t:TypeId} {k:IntKind} {a b:Int} {v:ai} (hv:oB op (.int k a) (.int k b)=some v):bZ P T op t (.int k a) (.int k b)=some v:=by simp [bZ,hv]
section
variable (t:TypeId) (k:IntKind) (a b:Int)
theorem zyA:bZ P T .add t (.int k a) (.int k b)=some (.int k (k.wrap (a+b))):=zM (by simp [oB])
theorem zyK:bZ P T .sub t (.int k a) (.int k b)=some (.int k (k.wrap (a - b))):=zM (by simp [oB])
theorem zyB:bZ P T .eql t (.int k a) (.int k b)=some (.bool (a == b)):=zM (by simp [oB])
theorem zyG:bZ P T .neq t (.int k a) (.int k b)=some (.bool (a != b)):=zM (by simp [oB])
theorem zyF:bZ P T .lss t (.int k a) (.int k b)=some (.bool (a < b)):=zM (by simp [oB])
theorem zyE:bZ P T .leq t (.int k a) (.int k b)=some (.bool (a<=b)):=zM (by simp [oB])
theorem zyD:bZ P T .gtr t (.int k a) (.int k b)=some (.bool (a > b)):=zM (by simp [oB])
theorem zyC:bZ P T .geq t (.int k a) (.int k b)=some (.bool (a >= b)):=zM (by simp [oB])
end

end
end Go.Am
