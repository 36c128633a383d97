/- More fuel changes nothing. No condition. -/
import Derived.Test.YtiapegieocgmfaaGreatDoorG1
set_option linter.unusedSimpArgs false
namespace Go.Am
variable {r:ab × Heap} {h:Heap} {E E':Code->Env->Heap->Option (Ex × Env × Heap)}

def CU (C C':Fn->List ab->Heap->Option (ab × Heap)):Prop:=∀ f args h r,C f args h=some r->C' f args h=some r
def DLe (D D':Array Oper->Env->Heap->Option (Env × Heap)):Prop:=∀ ops e h r,D ops e h=some r->D' ops e h=some r

section
variable {P:Program} {T:bI} {C C':Fn->List ab->Heap->Option (ab × Heap)}

theorem I7 (hC:CU C C') {e:Env} {o:Oper} (aj:gL P T C e o h=some r):gL P T C' e o h=some r:=by
 obtain ⟨dst,op,ty,pos,after,guard⟩:=o
 cases op <;> simp only [gL] at aj ⊢ <;> try exact aj
 case call c =>
  obtain ⟨callee,args,ats⟩:=c
  cases callee with
  |value f =>
   simp only at aj ⊢
   split at aj
   .exact hC _ _ _ _ aj
   .split at aj
    .rename_i hc;rw [aE hc];exact hC _ _ _ _ aj
    .cases aj
   .cases aj
  |invoke rv m =>
   simp only at aj ⊢
   split at aj
   .simp only [cH,Prod.exists] at aj ⊢
    obtain ⟨f,y,hm,aj⟩:=aj
    exact ⟨f,y,hm,hC _ _ _ _ aj⟩
   .cases aj
  |builtin b=>cases b <;> exact aj

theorem SK (hC:CU C C') {ops:Array Oper}:∀ (l:List Oper) (e:Env) (h:Heap) (r:Env × Heap),tG P T C ops l e h=some r->tG P T C' ops l e h=some r
 | [],_,_,_,aj=>aj
 |o::l,e,h,r,aj=>by
  simp only [tG] at aj ⊢
  split at aj
  .rename_i hw
   rw [aE hw]
   split at aj
   .rename_i v h1 h2
    rw [I7 hC h2]
    exact SK hC l _ _ _ aj
   .cases aj
  .rename_i hw
   rw [az hw]
   exact SK hC l _ _ _ aj

theorem SU (hC:CU C C') {ops:Array Oper}:∀ (l:List Oper) (e:Env) (h:Heap) (r:List Nat × Env × Heap),sj P T C ops l e h=some r->sj P T C' ops l e h=some r
 | [],_,_,_,aj=>aj
 |o::l,e,h,r,aj=>by
  simp only [sj] at aj ⊢
  split at aj
  .rename_i hw
   rw [aE hw]
   split at aj
   .rename_i v h1 h2
    rw [I7 hC h2]
    simp only [cA,Prod.exists] at aj ⊢
    obtain ⟨ks,x1,x2,hr,rfl⟩:=aj
    exact ⟨ks,x1,x2,SU hC l _ _ _ hr,rfl⟩
   .cases aj
  .rename_i hw
   rw [az hw]
   simp only [cA,Prod.exists] at aj ⊢
   obtain ⟨ks,x1,x2,hr,rfl⟩:=aj
   exact ⟨ks,x1,x2,SU hC l _ _ _ hr,rfl⟩

theorem Cl (hC:CU C C'):DLe (qF P T C) (qF P T C'):=by
 intro ops e h r aj
 unfold qF at aj ⊢
 split at aj
 .rename_i hr
  rw [SU hC _ _ _ _ hr]
  exact aj
 .cases aj

theorem zje {f f':Env->Heap->Option (Ex × Env × Heap)} (hf:∀ e h r,f e h=some r->f' e h=some r):∀ (n m:Nat) (e:Env) (h:Heap) (r:Ex × Env × Heap),n<=m->iter f n e h=some r->iter f' m e h=some r
 |0,_,_,_,_,_,hi=>by simp [iter] at hi
 |n+1,0,_,_,_,hle,_=>by omega
 |n+1,m+1,e,h,r,hle,hi=>by
  simp only [iter] at hi ⊢
  split at hi
  .rename_i e1 h1 h2
   rw [hf _ _ _ h2]
   exact zje hf n m _ _ _ (by omega) hi
  .rename_i aQ
   rw [hf _ _ _ hi]
   obtain ⟨x,e1,h1⟩:=r
   cases x with
   |normal=>exact (aQ _ _ hi).elim
   |exit id=>rfl
   |ret=>rfl

theorem Ck (hC:CU C C') {D D':Array Oper->Env->Heap->Option (Env × Heap)} (hD:DLe D D') {n m:Nat} (yI:n<=m) (rd:Option Nat):∀ (c:Code) (e:Env) (h:Heap) (r:Ex × Env × Heap),eh P T C D rd n c e h=some r->eh P T C' D' rd m c e h=some r:=by
 intro c
 induction c with
 |skip=>intro e h r aj;exact aj
 |region id ops d =>
  intro e h r aj
  simp only [eh,cA,Prod.exists] at aj ⊢
  obtain ⟨e1,h1,hr,rfl⟩:=aj
  refine ⟨e1,h1,?_,rfl⟩
  cases d with
  |true=>simp only [if_true] at hr ⊢;exact hD _ _ _ _ hr
  |false=>simp only [gM,if_false] at hr ⊢;exact SK hC _ _ _ _ hr
 |seq a b jY jZ =>
  intro e h r aj
  simp only [eh] at aj ⊢
  split at aj
  .rename_i e1 h1 h2
   rw [jY _ _ _ h2]
   exact jZ _ _ _ aj
  .rename_i aQ
   rw [jY _ _ _ aj]
   obtain ⟨x,e1,h1⟩:=r
   cases x with
   |normal=>exact (aQ _ _ aj).elim
   |exit id=>rfl
   |ret=>rfl
 |cond c a b jY jZ =>
  intro e h r aj
  simp only [eh] at aj ⊢
  split at aj
  .exact jY _ _ _ aj
  .exact jZ _ _ _ aj
  .cases aj
 |block id c ih =>
  intro e h r aj
  simp only [eh] at aj ⊢
  split at aj
  .rename_i i e1 h1 h2
   rw [ih _ _ _ h2]
   exact aj
  .rename_i aQ
   rw [ih _ _ _ aj]
   obtain ⟨x,e1,h1⟩:=r
   cases x with
   |normal=>rfl
   |exit id=>exact (aQ _ _ _ aj).elim
   |ret=>rfl
 |loop c ih=>intro e h r aj;simp only [eh] at aj ⊢;exact zje ih n m _ _ _ yI aj
 |exit id=>intro e h r aj;exact aj
 |ret=>intro e h r aj;exact aj
 |label l=>intro e h r aj;exact aj
 |rangeFunc f ps a b _ _ =>
  intro e h r aj
  simp only [eh,JF] at aj ⊢
  split at aj
  .split at aj
   .rename_i hc
    rw [aE hc]
    split at aj
    .rename_i hr;rw [hC _ _ _ _ hr];exact aj
    .cases aj
   .cases aj
  .cases aj
 |scope c ih=>intro e h r aj;exact ih _ _ _ aj
 |goto l=>intro e h r aj;simp [eh] at aj
 |refuse s=>intro e h r aj;simp [eh] at aj

theorem zrl (hE:∀ c e h r,E c e h=some r->E' c e h=some r) {A:Nat} {args:List ab} (aj:Ef E A args h=some r):Ef E' A args h=some r:=by
 unfold Ef at aj ⊢
 split at aj
 .split at aj
  .rename_i hc
   simp only [aE hc]
   split at aj
   .rename_i h1
    rw [hE _ _ _ _ h1]
    simp only
    split at aj
    .split at aj
     .rename_i h2;rw [hE _ _ _ _ h2];exact aj
     .rename_i h2;rw [hE _ _ _ _ h2];exact aj
     .rename_i h2;rw [hE _ _ _ _ h2];exact aj
     .cases aj
    .cases aj
   .cases aj
  .cases aj
 .cases aj

theorem zfa {E E':Code->Env->Heap->Option (Ex × Env × Heap)} (hE:∀ c e h r,E c e h=some r->E' c e h=some r):∀ (pre:List Code) (e:Env) (h:Heap) (r:Env × Heap),vY E pre e h=some r->vY E' pre e h=some r
 | [],_,_,_,aj=>aj
 |c::cs,e,h,r,aj=>by
  simp only [vY] at aj ⊢
  split at aj
  .rename_i hr
   rw [hE _ _ _ _ hr]
   exact zfa hE cs _ _ _ aj
  .cases aj
theorem zji (hE:∀ c e h r,E c e h=some r->E' c e h=some r) {fn:Func} {g:ab} {e3:Env} {h3:Heap} (aj:wg T E fn g e3 h3=some r):wg T E' fn g e3 h3=some r:=by
 unfold wg at aj ⊢
 split at aj
 .simp only [cH] at aj ⊢
  obtain ⟨fg,h1,cg,h2,aj⟩:=aj
  refine ⟨fg,h1,cg,h2,?_⟩
  split at aj
  .rename_i hn
   rw [aE hn]
   split at aj
   .rename_i hr
    rw [hE _ _ _ _ hr]
    exact aj
   .rename_i hr
    rw [hE _ _ _ _ hr]
    exact aj
   .cases aj
  .cases aj
 .cases aj
theorem zqE {C C':Fn->List ab->Heap->Option (ab × Heap)} (hC:CU C C') (hE:∀ c e h r,E c e h=some r->E' c e h=some r) {fn:Func} {c:Code} {e:Env} (aj:Ek P T E C fn c e h=some r):Ek P T E' C' fn c e h=some r:=by
 unfold Ek at aj ⊢
 simp only [cH,Prod.exists] at aj ⊢
 obtain ⟨pre,m,t,rest,cG,aj⟩:=aj
 refine ⟨pre,m,t,rest,cG,?_⟩
 split at aj
 .rename_i hn
  rw [aE hn]
  simp only [cH,Prod.exists] at aj ⊢
  obtain ⟨e1,h1,hp,v1,h2,ho,aj⟩:=aj
  refine ⟨e1,h1,zfa hE _ _ _ _ hp,v1,h2,I7 hC ho,?_⟩
  split at aj
  .rename_i hr
   rw [hE _ _ _ _ hr]
   exact zji hE aj
  .rename_i hr
   rw [hE _ _ _ _ hr]
   exact zji hE aj
  .cases aj
 .cases aj
theorem tE {ov:Ov}:∀ (n m:Nat),n<=m->CU (call P T ov n) (call P T ov m)
 |0,_,_=>by intro f args h r aj;simp [call] at aj
 |n+1,0,hle=>by omega
 |n+1,m+1,hle=>by
  intro f args h r aj
  have ih:=tE (ov:=ov) n m (by omega)
  cases f with
  |func f =>
   simp only [call] at aj ⊢
   split at aj
   .exact aj
   .simp only [cH] at aj ⊢
    obtain ⟨fn,vl,c,hc,aj⟩:=aj
    refine ⟨fn,vl,c,hc,?_⟩
    split at aj
    .rename_i Bw
     rw [aE Bw]
     exact zqE ih (λc e h r hr=>Ck ih (Cl ih) (by omega) none c e h r hr) aj
    rename_i Bw
    rw [az Bw]
    split at aj
    .rename_i hr
     rw [Ck ih (Cl ih) (by omega) none _ _ _ _ hr]
     exact aj
    .rename_i hr
     rw [Ck ih (Cl ih) (by omega) none _ _ _ _ hr]
     exact aj
    .cases aj
  |yield A =>
   simp only [call] at aj ⊢
   exact zrl (λc e h r hr=>Ck ih (Cl ih) (by omega) (some A) c e h r hr) aj
  |_=>simp [call] at aj
end
end Go.Am
namespace Go.Am
variable {K:aF} {args:List ab} {f:FuncId} {c:Code} {Q:Ex->Env->Heap->Prop}

structure Ext (h h':Heap):Prop where
 size:h.size<=h'.size
 get:∀ A,A < h.size->h'.get A=h.get A
 low:min h.low h.size<=h'.low

theorem Ext.refl (h:Heap):Ext h h:=⟨bj _,λ_ _=>rfl,xA _ _⟩
theorem Ext.trans {a b c:Heap} (h:Ext a b) (k:Ext b c):Ext a c :=
 ⟨gn h.size k.size,λA hA=>(k.get A (dB hA h.size)).trans (h.get A hA),by have:=h.low;have:=k.low;have:=h.size;omega⟩
theorem Ext.push (h:Heap) (b:ba):Ext h (h.push b):=⟨EG _,λA hA=>by rw [Heap.bg,az (by omega)],by rw [Heap.cR];omega⟩
theorem Ext.set {h h':Heap} (e:Ext h h') {A:Nat} (hA:h.size<=A) (dS:A < h'.size) (b:ba):Ext h (h'.set A b) :=
 ⟨e.size,λB hB=>by rw [Heap.aJ _ _ _ _ dS,az (by omega)];exact e.get B hB,by rw [Heap.bQ];have:=e.low;omega⟩

section
variable (P:Program) (T:bI) (ov:Ov)

def AU (f:Fn) (args:List ab) (h:Heap) (K:aF):Prop:=∃ n v h',call P T ov n f args h=some (v,h')/\K v h'
def Ok (f:FuncId) (args:List ab) (h:Heap) (K:aF):Prop:=AU P T ov (.func f) args h K

def dD (r:Option (ab × Heap)) (K:aF):Prop:=match r with
 |some (v,h')=>K v h'
 |none=>False
def zJ (v:ab) (A B:Prop):Prop:=match v with
 | .bool t=>(t=true->A)/\(t=false->B)
 |_=>False
def rQ (b:Bool) (A B:Prop):Prop:=if b=true then A else B

def TU:Fn->List ab->Heap->Option (ab × Heap):=λ_ _ _=>none

def cS (o:Oper) (e:Env) (h:Heap) (K:aF):Prop :=
 match o.op with
 | .call ⟨.value f,args,_⟩=>match bt e f with
  | .func (.func g) fi ca=>Ok P T ov g (fi.toList++args.toList.map (bt e)++ca.toList) h K
  | .func (.yield A) fi ca=>(fi.isEmpty && ca.isEmpty)=true/\AU P T ov (.yield A) (args.toList.map (bt e)) h K
  |_=>False
 | .call ⟨.invoke r name,args,_⟩=>match bt e r with
  | .iface t x=>(match xh T t x name h with
   |some (f,y)=>Ok P T ov f (y::args.toList.map (bt e)) h K
   |none=>False)
  |_=>False
 |_=>dD (gL P T TU e o h) K

def de (ops:Array Oper):List Oper->Env->Heap->(Env->Heap->Prop)->Prop
 | [],e,h,Q=>Q e h
 |o::l,e,h,Q=>rQ (nR ops o e) (cS P T ov o e h λv h'=>de ops l (put e o.dst v) h' Q) (de ops l (put e o.dst undef) h Q)

def cF (ops:Array Oper):List Oper->List Nat->Env->Heap->(List Nat->Env->Heap->Prop)->Prop
 | [],ks,e,h,Q=>Q ks e h
 |o::l,ks,e,h,Q =>
  rQ (nR ops o e) (cS P T ov o e { h with low:=h.size } λv h' =>
   cF ops l (ks++[mu T o e h h']) (put e o.dst v) { h' with low:=min h.low h'.low } Q)
   (cF ops l (ks++[0]) (put e o.dst undef) h Q)

def ej (W:Env->Heap->(Ex->Env->Heap->Prop)->Prop) (Q:Ex->Env->Heap->Prop):Nat->Env->Heap->Prop
 |0,_,_=>False
 |n+1,e,h=>W e h fun
  | .normal,e',h'=>ej W Q n e' h'
  |x,e',h'=>Q x e' h'

def JZ (r:Option (Ex × Env × Heap)) (Q:Ex->Env->Heap->Prop):Prop:=match r with
 |some (x,e,h)=>Q x e h
 |none=>False
def Cv (rd:Option Nat) (g:ab) (ps:List Tmp) (assign body:Code) (e:Env) (h:Heap) (Q:Ex->Env->Heap->Prop):Prop :=
 match g with
 | .func (.func f) fi ca=>(TE rd h && TQ T f)=true /\
  Ok P T ov f (fi.toList++[.func (.yield h.size) #[] #[]]++ca.toList) (h.push (.loop e ps assign body .ready none)) λ_ h2=>JZ (D0 h.size e h2) Q
 |_=>False
def W (rd:Option Nat):Code->Env->Heap->(Ex->Env->Heap->Prop)->Prop
 | .skip,e,h,Q=>Q .normal e h
 | .region _ ops false,e,h,Q=>de P T ov ops ops.toList e h (Q .normal)
 | .region _ ops true,e,h,Q=>cF P T ov ops ops.toList [] e h λks e' h'=>T2 ops ks (pA ops.toList [])=true/\Q .normal e' h'
 | .seq a b,e,h,Q=>W rd a e h fun
  | .normal,e',h'=>W rd b e' h' Q
  |x,e',h'=>Q x e' h'
 | .cond c a b,e,h,Q=>zJ (bt e c) (W rd a e h Q) (W rd b e h Q)
 | .block id c,e,h,Q=>W rd c e h fun
  | .exit i,e',h'=>if i=id then Q .normal e' h' else Q (.exit i) e' h'
  |x,e',h'=>Q x e' h'
 | .loop c,e,h,Q=>∃ n,ej (W rd c) Q n e h
 | .exit id,e,h,Q=>Q (.exit id) e h
 | .ret,e,h,Q=>Q .ret e h
 | .label _,e,h,Q=>Q .normal e h
 | .scope c,e,h,Q=>W rd c e h Q
 | .rangeFunc g ps assign body,e,h,Q=>Cv P T ov rd (bt e g) ps.toList assign body e h Q
 |_,_,_,_=>False
end

section
variable {P:Program} {T:bI} {ov:Ov} {rd:Option Nat}

theorem AU.mono {f:Fn} {h:Heap} {K':aF} (hk:AU P T ov f args h K) (hm:∀ v h',K v h'->K' v h'):AU P T ov f args h K':=by
 obtain ⟨n,v,h',h1,h2⟩:=hk
 exact ⟨n,v,h',h1,hm v h' h2⟩
theorem Ok.mono {h:Heap} {K':aF} (hk:Ok P T ov f args h K) (hm:∀ v h',K v h'->K' v h'):Ok P T ov f args h K':=by
 obtain ⟨n,v,h',h1,h2⟩:=hk
 exact ⟨n,v,h',h1,hm v h' h2⟩

theorem ztZ (C:Fn->List ab->Heap->Option (ab × Heap)):CU TU C:=by intro f args h r hr;cases hr

theorem cS.sound {o:Oper} {e:Env} {h:Heap} (hw:cS P T ov o e h K):∃ n v h',gL P T (call P T ov n) e o h=some (v,h')/\K v h':=by
 unfold cS at hw
 split at hw
 .rename_i f args ats aV
  split at hw
  .rename_i g fi ca hf
   obtain ⟨n,v,h',h1,h2⟩:=hw
   refine ⟨n,v,h',?_,h2⟩
   unfold gL
   simp only [aV,hf]
   exact h1
  .rename_i A fi ca hf
   obtain ⟨hc,n,v,h',h1,h2⟩:=hw
   refine ⟨n,v,h',?_,h2⟩
   unfold gL
   simp only [aV,hf]
   rw [aE hc]
   exact h1
  .exact hw.elim
 .rename_i r name args ats aV
  split at hw
  .rename_i t x hr
   split at hw
   .rename_i f y hm
    obtain ⟨n,v,h',h1,h2⟩:=hw
    refine ⟨n,v,h',?_,h2⟩
    unfold gL
    simp only [aV,hr,hm]
    exact h1
   .exact hw.elim
  .exact hw.elim
 .unfold dD at hw
  split at hw
  .rename_i v h' h1
   exact ⟨0,v,h',I7 (ztZ _) h1,hw⟩
  .exact hw.elim

theorem de.sound {ops:Array Oper}:∀ (l:List Oper) (e:Env) (h:Heap) (Q:Env->Heap->Prop),de P T ov ops l e h Q->∃ n e' h',tG P T (call P T ov n) ops l e h=some (e',h')/\Q e' h'
 | [],e,h,Q,hw=>⟨0,e,h,rfl,hw⟩
 |o::l,e,h,Q,hw=>by
  simp only [de,rQ] at hw
  split at hw
  .rename_i gW
   obtain ⟨n,v,h1,h2,h3⟩:=cS.sound hw
   obtain ⟨m,e',h',h4,h5⟩:=de.sound l _ _ _ h3
   refine ⟨max n m,e',h',?_,h5⟩
   simp only [tG,gW,if_true]
   rw [I7 (tE n (max n m) (CP _ _)) h2]
   exact SK (tE m (max n m) (AP _ _)) _ _ _ _ h4
  .rename_i gW
   obtain ⟨m,e',h',h4,h5⟩:=de.sound l _ _ _ hw
   refine ⟨m,e',h',?_,h5⟩
   simp only [tG]
   rw [az gW]
   exact h4

theorem cF.sound {ops:Array Oper}:∀ (l:List Oper) (ks:List Nat) (e:Env) (h:Heap) (Q:List Nat->Env->Heap->Prop),cF P T ov ops l ks e h Q ->
 ∃ n eU e' h',sj P T (call P T ov n) ops l e h=some (eU,e',h')/\Q (ks++eU) e' h'
 | [],ks,e,h,Q,hw=>⟨0,[],e,h,rfl,by rw [bu];exact hw⟩
 |o::l,ks,e,h,Q,hw=>by
  simp only [cF,rQ] at hw
  split at hw
  .rename_i gW
   obtain ⟨n,v,h1,h2,h3⟩:=cS.sound hw
   obtain ⟨m,eU,e',h',h4,h5⟩:=cF.sound l _ _ _ _ h3
   refine ⟨max n m,_::eU,e',h',?_,by rw [j7] at h5;exact h5⟩
   simp only [sj,gW,if_true]
   rw [I7 (tE n (max n m) (CP _ _)) h2]
   simp only [SU (tE m (max n m) (AP _ _)) _ _ _ _ h4,jn]
  .rename_i gW
   obtain ⟨m,eU,e',h',h4,h5⟩:=cF.sound l _ _ _ _ hw
   refine ⟨m,0::eU,e',h',?_,by rw [j7] at h5;exact h5⟩
   simp only [sj]
   rw [az gW,h4]
   rfl

theorem ej.mono {W:Env->Heap->(Ex->Env->Heap->Prop)->Prop} (hW:∀ e h Q Q',(∀ x e h,Q x e h->Q' x e h)->W e h Q->W e h Q') {Q Q':Ex->Env->Heap->Prop} (hq:∀ x e h,Q x e h->Q' x e h):∀ (n:Nat) (e:Env) (h:Heap),ej W Q n e h->ej W Q' n e h
 |0,_,_,hw=>hw
 |n+1,e,h,hw=>by
  simp only [ej] at hw ⊢
  refine hW _ _ _ _ ?_ hw
  intro x e' h'
  cases x with
  |normal=>exact ej.mono hW hq n e' h'
  |exit id=>exact hq _ _ _
  |ret=>exact hq _ _ _

theorem W.sound:∀ (c:Code) (e:Env) (h:Heap) (Q:Ex->Env->Heap->Prop),W P T ov rd c e h Q->∃ n x e' h',eh P T (call P T ov n) (qF P T (call P T ov n)) rd n c e h=some (x,e',h')/\Q x e' h':=by
 intro c
 have lift:∀ {n m:Nat} (c:Code) (e:Env) (h:Heap) (r:Ex × Env × Heap),n<=m->eh P T (call P T ov n) (qF P T (call P T ov n)) rd n c e h=some r->eh P T (call P T ov m) (qF P T (call P T ov m)) rd m c e h=some r :=
  λc e h r yI=>Ck (tE _ _ yI) (Cl (tE _ _ yI)) yI rd c e h r
 induction c with
 |skip=>intro e h Q hw;exact ⟨0,.normal,e,h,rfl,hw⟩
 |region id ops d =>
  intro e h Q hw
  cases d with
  |false =>
   simp only [W] at hw
   obtain ⟨n,e',h',h1,h2⟩:=de.sound _ _ _ _ hw
   exact ⟨n,.normal,e',h',by simp [eh,h1],h2⟩
  |true =>
   simp only [W] at hw
   obtain ⟨n,ks,e',h',h1,h2,h3⟩:=cF.sound _ _ _ _ _ hw
   rw [pE] at h2
   refine ⟨n,.normal,e',h',?_,h3⟩
   simp [eh,qF,h1,h2]
 |seq a b jY jZ =>
  intro e h Q hw
  simp only [W] at hw
  obtain ⟨n,x,e1,h1,h2,h3⟩:=jY _ _ _ hw
  cases x with
  |normal =>
   obtain ⟨m,x,e2,h4,h5,h6⟩:=jZ _ _ _ h3
   refine ⟨max n m,x,e2,h4,?_,h6⟩
   simp only [eh]
   rw [lift a e h _ (CP n m) h2]
   exact lift b _ _ _ (AP n m) h5
  |exit id=>exact ⟨n,.exit id,e1,h1,by simp only [eh];rw [h2],h3⟩
  |ret=>exact ⟨n,.ret,e1,h1,by simp only [eh];rw [h2],h3⟩
 |cond c a b jY jZ =>
  intro e h Q hw
  simp only [W,zJ] at hw
  split at hw
  .rename_i t ht
   cases t with
   |true =>
    obtain ⟨n,x,e1,h1,h2,h3⟩:=jY _ _ _ (hw.1 rfl)
    exact ⟨n,x,e1,h1,by simp only [eh,ht];exact h2,h3⟩
   |false =>
    obtain ⟨n,x,e1,h1,h2,h3⟩:=jZ _ _ _ (hw.2 rfl)
    exact ⟨n,x,e1,h1,by simp only [eh,ht];exact h2,h3⟩
  .exact hw.elim
 |block id c ih =>
  intro e h Q hw
  simp only [W] at hw
  obtain ⟨n,x,e1,h1,h2,h3⟩:=ih _ _ _ hw
  cases x with
  |normal=>exact ⟨n,.normal,e1,h1,by simp only [eh];rw [h2],h3⟩
  |exit i =>
   by_cases hi:i=id
   .exact ⟨n,.normal,e1,h1,by simp only [eh,h2,aE hi],by simpa only [aE hi] using h3⟩
   .exact ⟨n,.exit i,e1,h1,by simp only [eh,h2,az hi],by simpa only [az hi] using h3⟩
  |ret=>exact ⟨n,.ret,e1,h1,by simp only [eh];rw [h2],h3⟩
 |loop c ih =>
  intro e h Q hw
  simp only [W] at hw
  obtain ⟨k,hw⟩:=hw
  have key:∀ (k:Nat) (e:Env) (h:Heap),ej (W P T ov rd c) Q k e h->∃ n x e' h',iter (eh P T (call P T ov n) (qF P T (call P T ov n)) rd n c) n e h=some (x,e',h')/\Q x e' h':=by
   intro k
   induction k with
   |zero=>intro e h hw;exact hw.elim
   |succ k mq =>
    intro e h hw
    simp only [ej] at hw
    obtain ⟨n,x,e1,h1,h2,h3⟩:=ih _ _ _ hw
    cases x with
    |normal =>
     obtain ⟨m,x,e2,h4,h5,h6⟩:=mq _ _ h3
     refine ⟨max n m+1,x,e2,h4,?_,h6⟩
     simp only [iter]
     rw [lift c e h _ (show n<=max n m+1 by omega) h2]
     exact zje (λe h r hr=>lift c e h r (show m<=max n m+1 by omega) hr) m (max n m) _ _ _ (AP _ _) h5
    |exit id=>exact ⟨n+1,.exit id,e1,h1,by simp only [iter];rw [lift c e h _ (EG n) h2],h3⟩
    |ret=>exact ⟨n+1,.ret,e1,h1,by simp only [iter];rw [lift c e h _ (EG n) h2],h3⟩
  obtain ⟨n,x,e',h',h1,h2⟩:=key k e h hw
  exact ⟨n,x,e',h',by simp only [eh];exact h1,h2⟩
 |exit id=>intro e h Q hw;exact ⟨0,.exit id,e,h,rfl,hw⟩
 |ret=>intro e h Q hw;exact ⟨0,.ret,e,h,rfl,hw⟩
 |label l=>intro e h Q hw;exact ⟨0,.normal,e,h,rfl,hw⟩
 |rangeFunc g ps a b _ _ =>
  intro e h Q hw
  simp only [W,Cv] at hw
  split at hw
  .rename_i f fi ca hg
   obtain ⟨hc,n,v,h1,h2,h3⟩:=hw
   unfold JZ at h3
   split at h3
   .rename_i x e' h' h4
    refine ⟨n,x,e',h',?_,h3⟩
    simp only [eh,JF,hg]
    rw [aE hc,h2]
    exact h4
   .exact h3.elim
  .exact hw.elim
 |scope c ih=>intro e h Q hw;exact ih _ _ _ hw
 |goto l=>intro e h Q hw;exact hw.elim
 |refuse s=>intro e h Q hw;exact hw.elim

theorem Ok.enter {fn:Func} {h:Heap} (ho:ov f=none) (hf:T.fn f=some fn) (hc:fn.body=some c) (Bw:T.LS f=false)
 (hw:W P T ov none c (args++List.replicate (fn.ntmps - args.length) undef) h λx e' h'=>(x=.ret\/x=.normal)/\∃ v,pz T fn e' h'=some v/\K v h'):Ok P T ov f args h K:=by
 obtain ⟨n,x,e',h',h1,hx,v,h2,h3⟩:=W.sound _ _ _ _ hw
 refine ⟨n+1,v,h',?_,h3⟩
 simp only [call,ho,hf,hc,dM,h1,Bw,gM,if_false]
 rcases hx with rfl|rfl <;> simp [h2]

def pH (P:Program) (T:bI) (ov:Ov):List Code->Env->Heap->(Env->Heap->Prop)->Prop
 | [],e,h,Q=>Q e h
 |c::cs,e,h,Q=>W P T ov none c e h λx e' h'=>x=.normal/\pH P T ov cs e' h' Q
theorem pH.sound:∀ (pre:List Code) (e:Env) (h:Heap) (Q:Env->Heap->Prop),pH P T ov pre e h Q->∃ n e' h',vY (eh P T (call P T ov n) (qF P T (call P T ov n)) none n) pre e h=some (e',h')/\Q e' h'
 | [],e,h,Q,hw=>⟨0,e,h,rfl,hw⟩
 |c::cs,e,h,Q,hw=>by
  simp only [pH] at hw
  obtain ⟨n,x,e1,h1,r1,rfl,hw⟩:=W.sound _ _ _ _ hw
  obtain ⟨k,e2,h2,r2,hq⟩:=pH.sound cs e1 h1 Q hw
  refine ⟨max n k,e2,h2,?_,hq⟩
  simp only [vY]
  rw [Ck (tE _ _ (CP n k)) (Cl (tE _ _ (CP n k))) (CP n k) none _ _ _ _ r1]
  exact zfa (λc e h r=>Ck (tE _ _ (AP n k)) (Cl (tE _ _ (AP n k))) (AP n k) none c e h r) _ _ _ _ r2

theorem AU.round {A:Nat} {env:List ab} {ps:List Tmp} {assign body:Code} {st:LoopState} {fY:Option Code} {h:Heap} (hg:h.get A=some (.loop env ps assign body st fY)) (hl:args.length=ps.length)
 (hw:W P T ov (some A) assign (iQ env ps args) h λx e1 h1=>x=.normal/\∃ sR G5 UT UW lq,h1.get A=some (.loop sR G5 UT UW .ready lq) /\
  W P T ov (some A) body e1 (h1.set A (.loop sR G5 UT UW .busy lq)) λx _ h2=>dD (Cm A (match x with | .normal=>none | .ret=>some .ret | .exit id=>some (.exit id)) h2) K):AU P T ov (.yield A) args h K:=by
 obtain ⟨n,x,e1,h1,r1,rfl,sR,G5,UT,UW,lq,r2,hw⟩:=W.sound _ _ _ _ hw
 obtain ⟨m,x,e2,h2,r3,hk⟩:=W.sound _ _ _ _ hw
 unfold dD at hk
 split at hk
 .rename_i v h' r4
  refine ⟨max n m+1,v,h',?_,hk⟩
  have l1:=Ck (P:=P) (T:=T) (tE (ov:=ov) n (max n m) (CP _ _)) (Cl (tE n (max n m) (CP _ _))) (CP n m) (some A) _ _ _ _ r1
  have l2:=Ck (P:=P) (T:=T) (tE (ov:=ov) m (max n m) (AP _ _)) (Cl (tE m (max n m) (AP _ _))) (AP n m) (some A) _ _ _ _ r3
  simp only [call,Ef,hg,hl,if_true,l1,r2,l2]
  cases x <;> exact r4
 .exact hk.elim

theorem Ok.over {g:List ab->Heap->Option (ab × Heap)} {h h':Heap} {v:ab} (ho:ov f=some g) (hg:g args h=some (v,h')) (hk:K v h'):Ok P T ov f args h K :=
 ⟨1,v,h',by simp [call,ho,hg],hk⟩

theorem W.loop {c:Code} {e:Env} {h:Heap} {Q:Ex->Env->Heap->Prop} (I:Env->Heap->Prop) (μ:Env->Heap->Nat) (h0:I e h)
 (round:∀ e h,I e h->W P T ov rd c e h λx e' h'=>match x with | .normal=>I e' h'/\μ e' h' < μ e h|x=>Q x e' h') (hm:∀ e h Q Q',(∀ x e h,Q x e h->Q' x e h)->W P T ov rd c e h Q->W P T ov rd c e h Q'):W P T ov rd (.loop c) e h Q:=by
 have key:∀ (n:Nat) (e:Env) (h:Heap),μ e h < n->I e h->ej (W P T ov rd c) Q n e h:=by
  intro n
  induction n with
  |zero=>intro e h hn;omega
  |succ n ih =>
   intro e h hn hI
   simp only [ej]
   refine hm _ _ _ _ ?_ (round e h hI)
   intro x e' h'
   cases x with
   |normal=>exact λhh=>ih e' h' (by omega) hh.1
   |exit i=>exact λhh=>hh
   |ret=>exact λhh=>hh
 exact ⟨μ e h+1,key _ e h (wt _) h0⟩

theorem cS.mono {o:Oper} {e:Env} {h:Heap} {K K':aF} (hk:∀ v h',K v h'->K' v h') (hw:cS P T ov o e h K):cS P T ov o e h K':=by
 unfold cS at hw ⊢
 split at hw
 .split at hw
  .exact hw.mono hk
  .exact ⟨hw.1,hw.2.mono hk⟩
  .exact hw.elim
 .split at hw
  .split at hw
   .exact hw.mono hk
   .exact hw.elim
  .exact hw.elim
 .unfold dD at hw ⊢
  split at hw
  .rename_i v h' h1;exact hk v h' hw
  .exact hw.elim
theorem de.mono {ops:Array Oper}:∀ (l:List Oper) (e:Env) (h:Heap) (Q Q':Env->Heap->Prop),(∀ e h,Q e h->Q' e h)->de P T ov ops l e h Q->de P T ov ops l e h Q'
 | [],_,_,_,_,hq,hw=>hq _ _ hw
 |o::l,e,h,Q,Q',hq,hw=>by
  simp only [de,rQ] at hw ⊢
  split at hw
  .rename_i gW;rw [aE gW];exact cS.mono (λv h'=>de.mono l _ _ _ _ hq) hw
  .rename_i gW;rw [az gW];exact de.mono l _ _ _ _ hq hw
theorem cF.mono {ops:Array Oper}:∀ (l:List Oper) (ks:List Nat) (e:Env) (h:Heap) (Q Q':List Nat->Env->Heap->Prop),(∀ ks e h,Q ks e h->Q' ks e h)->cF P T ov ops l ks e h Q->cF P T ov ops l ks e h Q'
 | [],_,_,_,_,_,hq,hw=>hq _ _ _ hw
 |o::l,ks,e,h,Q,Q',hq,hw=>by
  simp only [cF,rQ] at hw ⊢
  split at hw
  .rename_i gW;rw [aE gW];exact cS.mono (λv h'=>cF.mono l _ _ _ _ _ hq) hw
  .rename_i gW;rw [az gW];exact cF.mono l _ _ _ _ _ hq hw
theorem W.mono:∀ (c:Code) (e:Env) (h:Heap) (Q Q':Ex->Env->Heap->Prop),(∀ x e h,Q x e h->Q' x e h)->W P T ov rd c e h Q->W P T ov rd c e h Q':=by
 intro c
 induction c with
 |skip=>intro e h Q Q' hq hw;exact hq _ _ _ hw
 |region id ops d =>
  intro e h Q Q' hq hw
  cases d with
  |false=>exact de.mono _ _ _ _ _ (hq _) hw
  |true=>exact cF.mono _ _ _ _ _ _ (λks e h hh=>⟨hh.1,hq _ _ _ hh.2⟩) hw
 |seq a b jY jZ =>
  intro e h Q Q' hq hw
  simp only [W] at hw ⊢
  refine jY _ _ _ _ ?_ hw
  intro x e' h'
  cases x with
  |normal=>exact jZ _ _ _ _ hq
  |exit id=>exact hq _ _ _
  |ret=>exact hq _ _ _
 |cond c a b jY jZ =>
  intro e h Q Q' hq hw
  simp only [W,zJ] at hw ⊢
  split at hw
  .exact ⟨λht=>jY _ _ _ _ hq (hw.1 ht),λht=>jZ _ _ _ _ hq (hw.2 ht)⟩
  .exact hw.elim
 |block id c ih =>
  intro e h Q Q' hq hw
  simp only [W] at hw ⊢
  refine ih _ _ _ _ ?_ hw
  intro x e' h'
  cases x with
  |normal=>exact hq _ _ _
  |exit i =>
   intro hh
   by_cases hi:i=id
   .simp only [aE hi] at hh ⊢;exact hq _ _ _ hh
   .simp only [az hi] at hh ⊢;exact hq _ _ _ hh
  |ret=>exact hq _ _ _
 |loop c ih =>
  intro e h Q Q' hq hw
  simp only [W] at hw ⊢
  obtain ⟨n,hw⟩:=hw
  exact ⟨n,ej.mono ih hq n e h hw⟩
 |exit id=>intro e h Q Q' hq hw;exact hq _ _ _ hw
 |ret=>intro e h Q Q' hq hw;exact hq _ _ _ hw
 |label l=>intro e h Q Q' hq hw;exact hq _ _ _ hw
 |rangeFunc g ps a b _ _ =>
  intro e h Q Q' hq hw
  simp only [W,Cv] at hw ⊢
  split at hw
  .refine ⟨hw.1,hw.2.mono λv h2 hh=>?_⟩
   unfold JZ at hh ⊢
   split at hh
   .exact hq _ _ _ hh
   .exact hh.elim
  .exact hw.elim
 |scope c ih=>intro e h Q Q' hq hw;exact ih _ _ _ _ hq hw
 |goto l=>intro e h Q Q' hq hw;exact hw.elim
 |refuse s=>intro e h Q Q' hq hw;exact hw.elim

theorem pH.mono:∀ (pre:List Code) (e:Env) (h:Heap) (Q Q':Env->Heap->Prop),(∀ e h,Q e h->Q' e h)->pH P T ov pre e h Q->pH P T ov pre e h Q'
 | [],e,h,_,_,hq,hw=>hq e h hw
 |c::cs,_,_,Q,Q',hq,hw=>W.mono c _ _ _ _ (λ_ e' h' ⟨h1,h2⟩=>⟨h1,pH.mono cs e' h' Q Q' hq h2⟩) hw
theorem W.NR {e:Env} {h:Heap} (I:Env->Heap->Prop) (μ:Env->Heap->Nat) (h0:I e h)
 (round:∀ e h,I e h->W P T ov rd c e h λx e' h'=>match x with | .normal=>I e' h'/\μ e' h' < μ e h|x=>Q x e' h'):W P T ov rd (.loop c) e h Q:=W.loop I μ h0 round (W.mono c)
structure Hid (p:Prop):Prop where
 out:p
theorem zz5 (p:Prop):Hid p=p:=propext ⟨Hid.out,Hid.mk⟩
section
variable (P:Program) (T:bI) (ov:Ov) (rd:Option Nat)
def xD (ops:Array Oper) (l:List Oper) (d:Option Tmp) (Q:Env->Heap->Prop) (e:Env):aF:=λv h'=>Hid (de P T ov ops l (put e d v) h' Q)
def Uo (ops:Array Oper) (o:Oper) (l:List Oper) (e:Env) (h:Heap) (Q:Env->Heap->Prop) (b:Bool):Prop:=if b=true then cS P T ov o e h (xD P T ov ops l o.dst Q e) else de P T ov ops l (put e o.dst undef) h Q
def HQ (a b:Code) (e:Env) (h:Heap) (Q:Ex->Env->Heap->Prop) (v:ab):Prop:=zJ v (W P T ov rd a e h Q) (W P T ov rd b e h Q)
def J7 (b:Code) (Q:Ex->Env->Heap->Prop):Ex->Env->Heap->Prop
 | .normal,e',h'=>W P T ov rd b e' h' Q
 | .exit i,e',h'=>Q (.exit i) e' h'
 | .ret,e',h'=>Q .ret e' h'
def Ej (id:Nat) (Q:Ex->Env->Heap->Prop):Ex->Env->Heap->Prop
 | .normal,e',h'=>Q .normal e' h'
 | .exit i,e',h'=>if i=id then Q .normal e' h' else Q (.exit i) e' h'
 | .ret,e',h'=>Q .ret e' h'
def Ui (Q:Ex->Env->Heap->Prop):Env->Heap->Prop:=Q .normal
def ie (fn:Func) (K:aF):Ex->Env->Heap->Prop:=λx e' h'=>(x=.ret\/x=.normal)/\∃ v,pz T fn e' h'=some v/\K v h'
def AL (e:Env):List Operand->List ab
 | []=>[]
 |x::xs=>bt e x::AL e xs
def QK (o:Oper):Bool:=match o.op with
 | .call ⟨.value _,_,_⟩=>true
 | .call ⟨.invoke _ _,_,_⟩=>true
 |_=>false
def oU (args:List ab) (h:Heap) (K:aF) (v:ab):Prop:=match v with
 | .func (.func g) fi ca=>Ok P T ov g (fi.toList++args++ca.toList) h K
 | .func (.yield A) fi ca=>(fi.isEmpty && ca.isEmpty)=true/\AU P T ov (.yield A) args h K
 |_=>False
end

theorem Qw (e:Env):∀ xs:List Operand,xs.map (bt e)=AL e xs
 | []=>rfl
 |x::xs=>by rw [lD,AL,Qw e xs]
theorem zvu (e:Env):AL e []=[]:=rfl
theorem ztk (e:Env) (x:Operand) (xs:List Operand):AL e (x::xs)=bt e x::AL e xs:=rfl
theorem zxc (v:ab) (h:Heap) (K:aF):dD (some (v,h)) K=K v h:=rfl
theorem zx5 (ops:Array Oper) (e:Env) (h:Heap) (Q:Env->Heap->Prop):de P T ov ops [] e h Q=Q e h:=rfl
theorem znV (ops:Array Oper) (o:Oper) (l:List Oper) (e:Env) (h:Heap) (Q:Env->Heap->Prop):de P T ov ops (o::l) e h Q=Uo P T ov ops o l e h Q (nR ops o e):=by
 simp only [de,rQ,Uo]
 split
 .exact propext ⟨cS.mono λ_ _ hw=>⟨hw⟩,cS.mono λ_ _ hw=>hw.out⟩
 .rfl
theorem zuL (ops:Array Oper) (o:Oper) (l:List Oper) (e:Env) (h:Heap) (Q:Env->Heap->Prop):Uo P T ov ops o l e h Q true=cS P T ov o e h (xD P T ov ops l o.dst Q e):=rfl
theorem zrz (ops:Array Oper) (o:Oper) (l:List Oper) (e:Env) (h:Heap) (Q:Env->Heap->Prop):Uo P T ov ops o l e h Q false=de P T ov ops l (put e o.dst undef) h Q:=rfl
theorem zx3 (ops:Array Oper) (l:List Oper) (d:Option Tmp) (Q:Env->Heap->Prop) (e:Env) (v:ab) (h:Heap):xD P T ov ops l d Q e v h=de P T ov ops l (put e d v) h Q:=zz5 _
theorem zr0 {o:Oper} {e:Env} {h:Heap} (hc:QK o=false):cS P T ov o e h K=dD (gL P T TU e o h) K:=by
 unfold cS
 split
 .rename_i aV;simp [QK,aV] at hc
 .rename_i aV;simp [QK,aV] at hc
 .rfl
theorem zx4 (d:Option Tmp) (f:Operand) (args:List Operand) (ats:Array TypeId) (ty:TypeId) (pos:String) (af:Array Edge) (g:Option (Nat × Bool)) (e:Env) (h:Heap) (K:aF) :
 cS P T ov ⟨d,.call ⟨.value f,⟨args⟩,ats⟩,ty,pos,af,g⟩ e h K=oU P T ov (AL e args) h K (bt e f):=by
 rw [<- Qw];rfl
theorem r9 (g:FuncId) (args:List ab) (h:Heap) (K:aF):oU P T ov args h K (.func (.func g) #[] #[])=Ok P T ov g args h K:=by
 simp [oU]
theorem vV (g:FuncId) (fi ca:Array ab) (args:List ab) (h:Heap) (K:aF):oU P T ov args h K (.func (.func g) fi ca)=Ok P T ov g (fi.toList++args++ca.toList) h K:=rfl
theorem zB8 (e:Env) (h:Heap) (Q:Ex->Env->Heap->Prop):W P T ov rd .skip e h Q=Q .normal e h:=rfl
theorem zx6 (id:Nat) (ops:List Oper) (e:Env) (h:Heap) (Q:Ex->Env->Heap->Prop):W P T ov rd (.region id ⟨ops⟩ false) e h Q=de P T ov ⟨ops⟩ ops e h (Ui Q):=rfl
theorem zwA (Q:Ex->Env->Heap->Prop) (e:Env) (h:Heap):Ui Q e h=Q .normal e h:=rfl
theorem zB7 (a b:Code) (e:Env) (h:Heap) (Q:Ex->Env->Heap->Prop):W P T ov rd (.seq a b) e h Q=W P T ov rd a e h (J7 P T ov rd b Q):=by
 simp only [W]
 congr 1
 funext x e' h'
 cases x <;> rfl
theorem zvr (id:Nat) (c:Code) (e:Env) (h:Heap) (Q:Ex->Env->Heap->Prop):W P T ov rd (.block id c) e h Q=W P T ov rd c e h (Ej id Q):=by
 simp only [W]
 congr 1
 funext x e' h'
 cases x <;> rfl
theorem zB4 (c:Operand) (a b:Code) (e:Env) (h:Heap) (Q:Ex->Env->Heap->Prop):W P T ov rd (.cond c a b) e h Q=HQ P T ov rd a b e h Q (bt e c):=rfl
theorem ztD (a b:Code) (e:Env) (h:Heap) (Q:Ex->Env->Heap->Prop):HQ P T ov rd a b e h Q (.bool true)=W P T ov rd a e h Q:=by simp [HQ,zJ]
theorem zqB (a b:Code) (e:Env) (h:Heap) (Q:Ex->Env->Heap->Prop):HQ P T ov rd a b e h Q (.bool false)=W P T ov rd b e h Q:=by simp [HQ,zJ]
theorem zB5 (id:Nat) (e:Env) (h:Heap) (Q:Ex->Env->Heap->Prop):W P T ov rd (.exit id) e h Q=Q (.exit id) e h:=rfl
theorem zC9 (e:Env) (h:Heap) (Q:Ex->Env->Heap->Prop):W P T ov rd .ret e h Q=Q .ret e h:=rfl
theorem zAn (l:Nat) (e:Env) (h:Heap) (Q:Ex->Env->Heap->Prop):W P T ov rd (.label l) e h Q=Q .normal e h:=rfl
theorem zpR (b:Code) (Q:Ex->Env->Heap->Prop) (e:Env) (h:Heap):J7 P T ov rd b Q .normal e h=W P T ov rd b e h Q:=rfl
theorem zu0 (b:Code) (Q:Ex->Env->Heap->Prop) (i:Nat) (e:Env) (h:Heap):J7 P T ov rd b Q (.exit i) e h=Q (.exit i) e h:=rfl
theorem zxO (b:Code) (Q:Ex->Env->Heap->Prop) (e:Env) (h:Heap):J7 P T ov rd b Q .ret e h=Q .ret e h:=rfl
theorem zmt (id:Nat) (Q:Ex->Env->Heap->Prop) (e:Env) (h:Heap):Ej id Q .normal e h=Q .normal e h:=rfl
theorem zqs (id:Nat) (Q:Ex->Env->Heap->Prop) (e:Env) (h:Heap):Ej id Q (.exit id) e h=Q .normal e h:=by simp [Ej]
theorem ztp (id:Nat) (Q:Ex->Env->Heap->Prop) (e:Env) (h:Heap):Ej id Q .ret e h=Q .ret e h:=rfl
theorem Ok.YY {fn:Func} {h:Heap} (ho:ov f=none) (hf:T.fn f=some fn) (hc:fn.body=some c) (Bw:T.LS f=false) {m:Nat} (hm:fn.ntmps - args.length=m)
 (hw:W P T ov none c (args++List.replicate m undef) h (ie T fn K)):Ok P T ov f args h K:=Ok.enter ho hf hc Bw (by rw [hm];exact hw)
def Uh (I:Env->Heap->Prop) (μ:Env->Heap->Nat) (e:Env) (h:Heap) (Q:Ex->Env->Heap->Prop):Ex->Env->Heap->Prop
 | .normal,e',h'=>I e' h'/\μ e' h' < μ e h
 | .exit i,e',h'=>Q (.exit i) e' h'
 | .ret,e',h'=>Q .ret e' h'
theorem ztU (I:Env->Heap->Prop) (μ:Env->Heap->Nat) (e:Env) (h:Heap) (Q:Ex->Env->Heap->Prop) (i:Nat) (e':Env) (h':Heap):Uh I μ e h Q (.exit i) e' h'=Q (.exit i) e' h':=rfl
theorem zwq (I:Env->Heap->Prop) (μ:Env->Heap->Nat) (e:Env) (h:Heap) (Q:Ex->Env->Heap->Prop) (e':Env) (h':Heap):Uh I μ e h Q .ret e' h'=Q .ret e' h':=rfl
theorem zoW {I:Env->Heap->Prop} {μ:Env->Heap->Nat} {e:Env} {h:Heap} {e':Env} {h':Heap} (h1:I e' h') (h2:μ e' h' < μ e h):Uh I μ e h Q .normal e' h':=⟨h1,h2⟩
theorem zB6 {e:Env} {h:Heap} (I:Env->Heap->Prop) (μ:Env->Heap->Nat) (h0:I e h) (round:∀ e h,I e h->W P T ov rd c e h (Uh I μ e h Q)):W P T ov rd (.loop c) e h Q :=
 W.NR I μ h0 λe h hI=>W.mono c e h _ _ (λx e' h' hh=>by cases x <;> exact hh) (round e h hI)

section
variable (C:Fn->List ab->Heap->Option (ab × Heap)) (d:Option Tmp) (ty:TypeId) (pos:String) (af:Array Edge) (g:Option (Nat × Bool)) (e:Env) (h:Heap)
def zET (c a b:ab) (h:Heap):Option (ab × Heap):=match c with | .bool t=>some (if t then a else b,h)|_=>none
theorem zBv (t:TypeId) (x:Operand):gL P T C e ⟨d,.load t x,ty,pos,af,g⟩ h=(iD T t (bt e x) h).map λr=>(r,h):=rfl
def Ze (v:ab) (h:Heap):Option (ab × Heap):=match v with
 | .pointer (some a)=>some (.pointer (some a),h)
 | .func (.func f) a b=>some (.func (.func f) a b,h)
 | .iface t a=>some (.iface t a,h)
 |_=>none
def ZK (v:ab) (i:Nat) (h:Heap):Option (ab × Heap):=match v with | .tuple vs=>(vs[i]?).map λr=>(r,h)|_=>none
end
theorem zx0 (ops:Array Oper) (d:Option Tmp) (op:Op) (ty:TypeId) (pos:String) (af:Array Edge) (e:Env):nR ops ⟨d,op,ty,pos,af,none⟩ e=true:=rfl
def CC (v:ab) (b:Bool):Bool:=match v with | .bool c=>c == b|_=>false

theorem Eb {op:BinOp} {t:TypeId} {k:IntKind} {a b:Int} {v:ab} (hv:sk op (.int k a) (.int k b)=some v):cz P T op t (.int k a) (.int k b)=some v:=by simp [cz,hv]
section
variable (t:TypeId) (k:IntKind) (a b:Int)
theorem zAw:cz P T .add t (.int k a) (.int k b)=some (.int k (k.wrap (a+b))):=Eb (by simp [sk])
theorem zAH:cz P T .sub t (.int k a) (.int k b)=some (.int k (k.wrap (a - b))):=Eb (by simp [sk])
theorem zAy:cz P T .eql t (.int k a) (.int k b)=some (.bool (a == b)):=Eb (by simp [sk])
theorem zAD:cz P T .neq t (.int k a) (.int k b)=some (.bool (a != b)):=Eb (by simp [sk])
theorem zAC:cz P T .lss t (.int k a) (.int k b)=some (.bool (a < b)):=Eb (by simp [sk])
theorem zAB:cz P T .leq t (.int k a) (.int k b)=some (.bool (a<=b)):=Eb (by simp [sk])
theorem zAA:cz P T .gtr t (.int k a) (.int k b)=some (.bool (a > b)):=Eb (by simp [sk])
theorem zAz:cz P T .geq t (.int k a) (.int k b)=some (.bool (a >= b)):=Eb (by simp [sk])
end

end
end Go.Am
