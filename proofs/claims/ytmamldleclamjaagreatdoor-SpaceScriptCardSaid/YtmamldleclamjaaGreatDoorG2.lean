/- More fuel changes nothing. No condition. -/
import Derived.Test.YtmamldleclamjaaGreatDoorG1
set_option linter.unusedSimpArgs false
namespace Go.Am
variable {r:ah × Heap} {h:Heap} {E E':Code->Env->Heap->Option (Ex × Env × Heap)}

def Ch (C C':Fn->List ah->Heap->Option (ah × Heap)):Prop:=∀ f args h r,C f args h=some r->C' f args h=some r
def DLe (D D':Array Oper->Env->Heap->Option (Env × Heap)):Prop:=∀ ops e h r,D ops e h=some r->D' ops e h=some r

section
variable {P:Program} {T:bO} {C C':Fn->List ah->Heap->Option (ah × Heap)}

theorem IC (hC:Ch C C') {e:Env} {o:Oper} (ak:gP P T C e o h=some r):gP P T C' e o h=some r:=by
 obtain ⟨dst,op,ty,pos,after,guard⟩:=o
 cases op <;> simp only [gP] at ak ⊢ <;> try exact ak
 case call c =>
  obtain ⟨callee,args,ats⟩:=c
  cases callee with
  |value f =>
   simp only at ak ⊢
   split at ak
   .exact hC _ _ _ _ ak
   .split at ak
    .rename_i hc;rw [aB hc];exact hC _ _ _ _ ak
    .cases ak
   .cases ak
  |invoke rv m =>
   simp only at ak ⊢
   split at ak
   .simp only [cL,Prod.exists] at ak ⊢
    obtain ⟨f,y,hm,ak⟩:=ak
    exact ⟨f,y,hm,hC _ _ _ _ ak⟩
   .cases ak
  |builtin b=>cases b <;> exact ak

theorem Sj (hC:Ch C C') {ops:Array Oper}:∀ (l:List Oper) (e:Env) (h:Heap) (r:Env × Heap),tA P T C ops l e h=some r->tA P T C' ops l e h=some r
 | [],_,_,_,ak=>ak
 |o::l,e,h,r,ak=>by
  simp only [tA] at ak ⊢
  split at ak
  .rename_i hw
   rw [aB hw]
   split at ak
   .rename_i v h1 h2
    rw [IC hC h2]
    exact Sj hC l _ _ _ ak
   .cases ak
  .rename_i hw
   rw [aA hw]
   exact Sj hC l _ _ _ ak

theorem Ss (hC:Ch C C') {ops:Array Oper}:∀ (l:List Oper) (e:Env) (h:Heap) (r:List Nat × Env × Heap),rZ P T C ops l e h=some r->rZ P T C' ops l e h=some r
 | [],_,_,_,ak=>ak
 |o::l,e,h,r,ak=>by
  simp only [rZ] at ak ⊢
  split at ak
  .rename_i hw
   rw [aB hw]
   split at ak
   .rename_i v h1 h2
    rw [IC hC h2]
    simp only [cD,Prod.exists] at ak ⊢
    obtain ⟨ks,x1,x2,hr,rfl⟩:=ak
    exact ⟨ks,x1,x2,Ss hC l _ _ _ hr,rfl⟩
   .cases ak
  .rename_i hw
   rw [aA hw]
   simp only [cD,Prod.exists] at ak ⊢
   obtain ⟨ks,x1,x2,hr,rfl⟩:=ak
   exact ⟨ks,x1,x2,Ss hC l _ _ _ hr,rfl⟩

theorem BR (hC:Ch C C'):DLe (qw P T C) (qw P T C'):=by
 intro ops e h r ak
 unfold qw at ak ⊢
 split at ak
 .rename_i hr
  rw [Ss hC _ _ _ _ hr]
  exact ak
 .cases ak

theorem zjJ {f f':Env->Heap->Option (Ex × Env × Heap)} (hf:∀ e h r,f e h=some r->f' e h=some r):∀ (n m:Nat) (e:Env) (h:Heap) (r:Ex × Env × Heap),n<=m->iter f n e h=some r->iter f' m e h=some r
 |0,_,_,_,_,_,hi=>by simp [iter] at hi
 |n+1,0,_,_,_,hle,_=>by omega
 |n+1,m+1,e,h,r,hle,hi=>by
  simp only [iter] at hi ⊢
  split at hi
  .rename_i e1 h1 h2
   rw [hf _ _ _ h2]
   exact zjJ hf n m _ _ _ (by omega) hi
  .rename_i aS
   rw [hf _ _ _ hi]
   obtain ⟨x,e1,h1⟩:=r
   cases x with
   |normal=>exact (aS _ _ hi).elim
   |exit id=>rfl
   |ret=>rfl

theorem BQ (hC:Ch C C') {D D':Array Oper->Env->Heap->Option (Env × Heap)} (hD:DLe D D') {n m:Nat} (yh:n<=m) (rd:Option Nat):∀ (c:Code) (e:Env) (h:Heap) (r:Ex × Env × Heap),eg P T C D rd n c e h=some r->eg P T C' D' rd m c e h=some r:=by
 intro c
 induction c with
 |skip=>intro e h r ak;exact ak
 |region id ops d =>
  intro e h r ak
  simp only [eg,cD,Prod.exists] at ak ⊢
  obtain ⟨e1,h1,hr,rfl⟩:=ak
  refine ⟨e1,h1,?_,rfl⟩
  cases d with
  |true=>simp only [if_true] at hr ⊢;exact hD _ _ _ _ hr
  |false=>simp only [gB,if_false] at hr ⊢;exact Sj hC _ _ _ _ hr
 |seq a b jW jX =>
  intro e h r ak
  simp only [eg] at ak ⊢
  split at ak
  .rename_i e1 h1 h2
   rw [jW _ _ _ h2]
   exact jX _ _ _ ak
  .rename_i aS
   rw [jW _ _ _ ak]
   obtain ⟨x,e1,h1⟩:=r
   cases x with
   |normal=>exact (aS _ _ ak).elim
   |exit id=>rfl
   |ret=>rfl
 |cond c a b jW jX =>
  intro e h r ak
  simp only [eg] at ak ⊢
  split at ak
  .exact jW _ _ _ ak
  .exact jX _ _ _ ak
  .cases ak
 |block id c ih =>
  intro e h r ak
  simp only [eg] at ak ⊢
  split at ak
  .rename_i i e1 h1 h2
   rw [ih _ _ _ h2]
   exact ak
  .rename_i aS
   rw [ih _ _ _ ak]
   obtain ⟨x,e1,h1⟩:=r
   cases x with
   |normal=>rfl
   |exit id=>exact (aS _ _ _ ak).elim
   |ret=>rfl
 |loop c ih=>intro e h r ak;simp only [eg] at ak ⊢;exact zjJ ih n m _ _ _ yh ak
 |exit id=>intro e h r ak;exact ak
 |ret=>intro e h r ak;exact ak
 |label l=>intro e h r ak;exact ak
 |rangeFunc f ps a b _ _ =>
  intro e h r ak
  simp only [eg,Jy] at ak ⊢
  split at ak
  .split at ak
   .rename_i hc
    rw [aB hc]
    split at ak
    .rename_i hr;rw [hC _ _ _ _ hr];exact ak
    .cases ak
   .cases ak
  .cases ak
 |scope c ih=>intro e h r ak;exact ih _ _ _ ak
 |goto l=>intro e h r ak;simp [eg] at ak
 |refuse s=>intro e h r ak;simp [eg] at ak

theorem zro (hE:∀ c e h r,E c e h=some r->E' c e h=some r) {A:Nat} {args:List ah} (ak:DC E A args h=some r):DC E' A args h=some r:=by
 unfold DC at ak ⊢
 split at ak
 .split at ak
  .rename_i hc
   simp only [aB hc]
   split at ak
   .rename_i h1
    rw [hE _ _ _ _ h1]
    simp only
    split at ak
    .split at ak
     .rename_i h2;rw [hE _ _ _ _ h2];exact ak
     .rename_i h2;rw [hE _ _ _ _ h2];exact ak
     .rename_i h2;rw [hE _ _ _ _ h2];exact ak
     .cases ak
    .cases ak
   .cases ak
  .cases ak
 .cases ak

theorem zfh {E E':Code->Env->Heap->Option (Ex × Env × Heap)} (hE:∀ c e h r,E c e h=some r->E' c e h=some r):∀ (pre:List Code) (e:Env) (h:Heap) (r:Env × Heap),vO E pre e h=some r->vO E' pre e h=some r
 | [],_,_,_,ak=>ak
 |c::cs,e,h,r,ak=>by
  simp only [vO] at ak ⊢
  split at ak
  .rename_i hr
   rw [hE _ _ _ _ hr]
   exact zfh hE cs _ _ _ ak
  .cases ak
theorem zjM (hE:∀ c e h r,E c e h=some r->E' c e h=some r) {fn:Func} {g:ah} {e3:Env} {h3:Heap} (ak:vW T E fn g e3 h3=some r):vW T E' fn g e3 h3=some r:=by
 unfold vW at ak ⊢
 split at ak
 .simp only [cL] at ak ⊢
  obtain ⟨fg,h1,cg,h2,ak⟩:=ak
  refine ⟨fg,h1,cg,h2,?_⟩
  split at ak
  .rename_i hn
   rw [aB hn]
   split at ak
   .rename_i hr
    rw [hE _ _ _ _ hr]
    exact ak
   .rename_i hr
    rw [hE _ _ _ _ hr]
    exact ak
   .cases ak
  .cases ak
 .cases ak
theorem zqF {C C':Fn->List ah->Heap->Option (ah × Heap)} (hC:Ch C C') (hE:∀ c e h r,E c e h=some r->E' c e h=some r) {fn:Func} {c:Code} {e:Env} (ak:DH P T E C fn c e h=some r):DH P T E' C' fn c e h=some r:=by
 unfold DH at ak ⊢
 simp only [cL,Prod.exists] at ak ⊢
 obtain ⟨pre,m,t,rest,cR,ak⟩:=ak
 refine ⟨pre,m,t,rest,cR,?_⟩
 split at ak
 .rename_i hn
  rw [aB hn]
  simp only [cL,Prod.exists] at ak ⊢
  obtain ⟨e1,h1,hp,v1,h2,ho,ak⟩:=ak
  refine ⟨e1,h1,zfh hE _ _ _ _ hp,v1,h2,IC hC ho,?_⟩
  split at ak
  .rename_i hr
   rw [hE _ _ _ _ hr]
   exact zjM hE ak
  .rename_i hr
   rw [hE _ _ _ _ hr]
   exact zjM hE ak
  .cases ak
 .cases ak
theorem tz {ov:Ov}:∀ (n m:Nat),n<=m->Ch (call P T ov n) (call P T ov m)
 |0,_,_=>by intro f args h r ak;simp [call] at ak
 |n+1,0,hle=>by omega
 |n+1,m+1,hle=>by
  intro f args h r ak
  have ih:=tz (ov:=ov) n m (by omega)
  cases f with
  |func f =>
   simp only [call] at ak ⊢
   split at ak
   .exact ak
   .simp only [cL] at ak ⊢
    obtain ⟨fn,u5,c,hc,ak⟩:=ak
    refine ⟨fn,u5,c,hc,?_⟩
    split at ak
    .rename_i A9
     rw [aB A9]
     exact zqF ih (λc e h r hr=>BQ ih (BR ih) (by omega) none c e h r hr) ak
    rename_i A9
    rw [aA A9]
    split at ak
    .rename_i hr
     rw [BQ ih (BR ih) (by omega) none _ _ _ _ hr]
     exact ak
    .rename_i hr
     rw [BQ ih (BR ih) (by omega) none _ _ _ _ hr]
     exact ak
    .cases ak
  |yield A =>
   simp only [call] at ak ⊢
   exact zro (λc e h r hr=>BQ ih (BR ih) (by omega) (some A) c e h r hr) ak
  |_=>simp [call] at ak
end
end Go.Am
namespace Go.Am
variable {K:aI} {args:List ah} {f:FuncId} {c:Code} {Q:Ex->Env->Heap->Prop}

structure Ext (h h':Heap):Prop where
 size:h.size<=h'.size
 get:∀ A,A < h.size->h'.get A=h.get A
 low:min h.low h.size<=h'.low

theorem Ext.refl (h:Heap):Ext h h:=⟨bo _,λ_ _=>rfl,w9 _ _⟩
theorem Ext.trans {a b c:Heap} (h:Ext a b) (k:Ext b c):Ext a c :=
 ⟨hY h.size k.size,λA hA=>(k.get A (dJ hA h.size)).trans (h.get A hA),by have:=h.low;have:=k.low;have:=h.size;omega⟩
theorem Ext.push (h:Heap) (b:ba):Ext h (h.push b):=⟨D3 _,λA hA=>by rw [Heap.bC,aA (by omega)],by rw [Heap.dB];omega⟩
theorem Ext.set {h h':Heap} (e:Ext h h') {A:Nat} (hA:h.size<=A) (dO:A < h'.size) (b:ba):Ext h (h'.set A b) :=
 ⟨e.size,λB hB=>by rw [Heap.aJ _ _ _ _ dO,aA (by omega)];exact e.get B hB,by rw [Heap.cd];have:=e.low;omega⟩

section
variable (P:Program) (T:bO) (ov:Ov)

def Ci (f:Fn) (args:List ah) (h:Heap) (K:aI):Prop:=∃ n v h',call P T ov n f args h=some (v,h')/\K v h'
def Ok (f:FuncId) (args:List ah) (h:Heap) (K:aI):Prop:=Ci P T ov (.func f) args h K

def dw (r:Option (ah × Heap)) (K:aI):Prop:=match r with
 |some (v,h')=>K v h'
 |none=>False
def ze (v:ah) (A B:Prop):Prop:=match v with
 | .bool t=>(t=true->A)/\(t=false->B)
 |_=>False
def rC (b:Bool) (A B:Prop):Prop:=if b=true then A else B

def Tw:Fn->List ah->Heap->Option (ah × Heap):=λ_ _ _=>none

def cS (o:Oper) (e:Env) (h:Heap) (K:aI):Prop :=
 match o.op with
 | .call ⟨.value f,args,_⟩=>match bz e f with
  | .func (.func g) fi ca=>Ok P T ov g (fi.toList++args.toList.map (bz e)++ca.toList) h K
  | .func (.yield A) fi ca=>(fi.isEmpty && ca.isEmpty)=true/\Ci P T ov (.yield A) (args.toList.map (bz e)) h K
  |_=>False
 | .call ⟨.invoke r name,args,_⟩=>match bz e r with
  | .iface t x=>(match wS T t x name h with
   |some (f,y)=>Ok P T ov f (y::args.toList.map (bz e)) h K
   |none=>False)
  |_=>False
 |_=>dw (gP P T Tw e o h) K

def dg (ops:Array Oper):List Oper->Env->Heap->(Env->Heap->Prop)->Prop
 | [],e,h,Q=>Q e h
 |o::l,e,h,Q=>rC (nx ops o e) (cS P T ov o e h λv h'=>dg ops l (put e o.dst v) h' Q) (dg ops l (put e o.dst undef) h Q)

def cB (ops:Array Oper):List Oper->List Nat->Env->Heap->(List Nat->Env->Heap->Prop)->Prop
 | [],ks,e,h,Q=>Q ks e h
 |o::l,ks,e,h,Q =>
  rC (nx ops o e) (cS P T ov o e { h with low:=h.size } λv h' =>
   cB ops l (ks++[mb T o e h h']) (put e o.dst v) { h' with low:=min h.low h'.low } Q)
   (cB ops l (ks++[0]) (put e o.dst undef) h Q)

def ek (W:Env->Heap->(Ex->Env->Heap->Prop)->Prop) (Q:Ex->Env->Heap->Prop):Nat->Env->Heap->Prop
 |0,_,_=>False
 |n+1,e,h=>W e h fun
  | .normal,e',h'=>ek W Q n e' h'
  |x,e',h'=>Q x e' h'

def QP (r:Option (Ex × Env × Heap)) (Q:Ex->Env->Heap->Prop):Prop:=match r with
 |some (x,e,h)=>Q x e h
 |none=>False
def Jz (rd:Option Nat) (g:ah) (ps:List Tmp) (assign body:Code) (e:Env) (h:Heap) (Q:Ex->Env->Heap->Prop):Prop :=
 match g with
 | .func (.func f) fi ca=>(zmx rd h && zqW T f)=true /\
  Ok P T ov f (fi.toList++[.func (.yield h.size) #[] #[]]++ca.toList) (h.push (.loop e ps assign body .ready none)) λ_ h2=>QP (IQ h.size e h2) Q
 |_=>False
def W (rd:Option Nat):Code->Env->Heap->(Ex->Env->Heap->Prop)->Prop
 | .skip,e,h,Q=>Q .normal e h
 | .region _ ops false,e,h,Q=>dg P T ov ops ops.toList e h (Q .normal)
 | .region _ ops true,e,h,Q=>cB P T ov ops ops.toList [] e h λks e' h'=>TK ops ks (ph ops.toList [])=true/\Q .normal e' h'
 | .seq a b,e,h,Q=>W rd a e h fun
  | .normal,e',h'=>W rd b e' h' Q
  |x,e',h'=>Q x e' h'
 | .cond c a b,e,h,Q=>ze (bz e c) (W rd a e h Q) (W rd b e h Q)
 | .block id c,e,h,Q=>W rd c e h fun
  | .exit i,e',h'=>if i=id then Q .normal e' h' else Q (.exit i) e' h'
  |x,e',h'=>Q x e' h'
 | .loop c,e,h,Q=>∃ n,ek (W rd c) Q n e h
 | .exit id,e,h,Q=>Q (.exit id) e h
 | .ret,e,h,Q=>Q .ret e h
 | .label _,e,h,Q=>Q .normal e h
 | .scope c,e,h,Q=>W rd c e h Q
 | .rangeFunc g ps assign body,e,h,Q=>Jz P T ov rd (bz e g) ps.toList assign body e h Q
 |_,_,_,_=>False
end

section
variable {P:Program} {T:bO} {ov:Ov} {rd:Option Nat}

theorem Ci.mono {f:Fn} {h:Heap} {K':aI} (hk:Ci P T ov f args h K) (hm:∀ v h',K v h'->K' v h'):Ci P T ov f args h K':=by
 obtain ⟨n,v,h',h1,h2⟩:=hk
 exact ⟨n,v,h',h1,hm v h' h2⟩
theorem Ok.mono {h:Heap} {K':aI} (hk:Ok P T ov f args h K) (hm:∀ v h',K v h'->K' v h'):Ok P T ov f args h K':=by
 obtain ⟨n,v,h',h1,h2⟩:=hk
 exact ⟨n,v,h',h1,hm v h' h2⟩

theorem zt7 (C:Fn->List ah->Heap->Option (ah × Heap)):Ch Tw C:=by intro f args h r hr;cases hr

theorem cS.sound {o:Oper} {e:Env} {h:Heap} (hw:cS P T ov o e h K):∃ n v h',gP P T (call P T ov n) e o h=some (v,h')/\K v h':=by
 unfold cS at hw
 split at hw
 .rename_i f args ats aT
  split at hw
  .rename_i g fi ca hf
   obtain ⟨n,v,h',h1,h2⟩:=hw
   refine ⟨n,v,h',?_,h2⟩
   unfold gP
   simp only [aT,hf]
   exact h1
  .rename_i A fi ca hf
   obtain ⟨hc,n,v,h',h1,h2⟩:=hw
   refine ⟨n,v,h',?_,h2⟩
   unfold gP
   simp only [aT,hf]
   rw [aB hc]
   exact h1
  .exact hw.elim
 .rename_i r name args ats aT
  split at hw
  .rename_i t x hr
   split at hw
   .rename_i f y hm
    obtain ⟨n,v,h',h1,h2⟩:=hw
    refine ⟨n,v,h',?_,h2⟩
    unfold gP
    simp only [aT,hr,hm]
    exact h1
   .exact hw.elim
  .exact hw.elim
 .unfold dw at hw
  split at hw
  .rename_i v h' h1
   exact ⟨0,v,h',IC (zt7 _) h1,hw⟩
  .exact hw.elim

theorem dg.sound {ops:Array Oper}:∀ (l:List Oper) (e:Env) (h:Heap) (Q:Env->Heap->Prop),dg P T ov ops l e h Q->∃ n e' h',tA P T (call P T ov n) ops l e h=some (e',h')/\Q e' h'
 | [],e,h,Q,hw=>⟨0,e,h,rfl,hw⟩
 |o::l,e,h,Q,hw=>by
  simp only [dg,rC] at hw
  split at hw
  .rename_i gW
   obtain ⟨n,v,h1,h2,h3⟩:=cS.sound hw
   obtain ⟨m,e',h',h4,h5⟩:=dg.sound l _ _ _ h3
   refine ⟨max n m,e',h',?_,h5⟩
   simp only [tA,gW,if_true]
   rw [IC (tz n (max n m) (Cf _ _)) h2]
   exact Sj (tz m (max n m) (Ap _ _)) _ _ _ _ h4
  .rename_i gW
   obtain ⟨m,e',h',h4,h5⟩:=dg.sound l _ _ _ hw
   refine ⟨m,e',h',?_,h5⟩
   simp only [tA]
   rw [aA gW]
   exact h4

theorem cB.sound {ops:Array Oper}:∀ (l:List Oper) (ks:List Nat) (e:Env) (h:Heap) (Q:List Nat->Env->Heap->Prop),cB P T ov ops l ks e h Q ->
 ∃ n eU e' h',rZ P T (call P T ov n) ops l e h=some (eU,e',h')/\Q (ks++eU) e' h'
 | [],ks,e,h,Q,hw=>⟨0,[],e,h,rfl,by rw [bG];exact hw⟩
 |o::l,ks,e,h,Q,hw=>by
  simp only [cB,rC] at hw
  split at hw
  .rename_i gW
   obtain ⟨n,v,h1,h2,h3⟩:=cS.sound hw
   obtain ⟨m,eU,e',h',h4,h5⟩:=cB.sound l _ _ _ _ h3
   refine ⟨max n m,_::eU,e',h',?_,by rw [ka] at h5;exact h5⟩
   simp only [rZ,gW,if_true]
   rw [IC (tz n (max n m) (Cf _ _)) h2]
   simp only [Ss (tz m (max n m) (Ap _ _)) _ _ _ _ h4,j2]
  .rename_i gW
   obtain ⟨m,eU,e',h',h4,h5⟩:=cB.sound l _ _ _ _ hw
   refine ⟨m,0::eU,e',h',?_,by rw [ka] at h5;exact h5⟩
   simp only [rZ]
   rw [aA gW,h4]
   rfl

theorem ek.mono {W:Env->Heap->(Ex->Env->Heap->Prop)->Prop} (hW:∀ e h Q Q',(∀ x e h,Q x e h->Q' x e h)->W e h Q->W e h Q') {Q Q':Ex->Env->Heap->Prop} (hq:∀ x e h,Q x e h->Q' x e h):∀ (n:Nat) (e:Env) (h:Heap),ek W Q n e h->ek W Q' n e h
 |0,_,_,hw=>hw
 |n+1,e,h,hw=>by
  simp only [ek] at hw ⊢
  refine hW _ _ _ _ ?_ hw
  intro x e' h'
  cases x with
  |normal=>exact ek.mono hW hq n e' h'
  |exit id=>exact hq _ _ _
  |ret=>exact hq _ _ _

theorem W.sound:∀ (c:Code) (e:Env) (h:Heap) (Q:Ex->Env->Heap->Prop),W P T ov rd c e h Q->∃ n x e' h',eg P T (call P T ov n) (qw P T (call P T ov n)) rd n c e h=some (x,e',h')/\Q x e' h':=by
 intro c
 have lift:∀ {n m:Nat} (c:Code) (e:Env) (h:Heap) (r:Ex × Env × Heap),n<=m->eg P T (call P T ov n) (qw P T (call P T ov n)) rd n c e h=some r->eg P T (call P T ov m) (qw P T (call P T ov m)) rd m c e h=some r :=
  λc e h r yh=>BQ (tz _ _ yh) (BR (tz _ _ yh)) yh rd c e h r
 induction c with
 |skip=>intro e h Q hw;exact ⟨0,.normal,e,h,rfl,hw⟩
 |region id ops d =>
  intro e h Q hw
  cases d with
  |false =>
   simp only [W] at hw
   obtain ⟨n,e',h',h1,h2⟩:=dg.sound _ _ _ _ hw
   exact ⟨n,.normal,e',h',by simp [eg,h1],h2⟩
  |true =>
   simp only [W] at hw
   obtain ⟨n,ks,e',h',h1,h2,h3⟩:=cB.sound _ _ _ _ _ hw
   rw [pk] at h2
   refine ⟨n,.normal,e',h',?_,h3⟩
   simp [eg,qw,h1,h2]
 |seq a b jW jX =>
  intro e h Q hw
  simp only [W] at hw
  obtain ⟨n,x,e1,h1,h2,h3⟩:=jW _ _ _ hw
  cases x with
  |normal =>
   obtain ⟨m,x,e2,h4,h5,h6⟩:=jX _ _ _ h3
   refine ⟨max n m,x,e2,h4,?_,h6⟩
   simp only [eg]
   rw [lift a e h _ (Cf n m) h2]
   exact lift b _ _ _ (Ap n m) h5
  |exit id=>exact ⟨n,.exit id,e1,h1,by simp only [eg];rw [h2],h3⟩
  |ret=>exact ⟨n,.ret,e1,h1,by simp only [eg];rw [h2],h3⟩
 |cond c a b jW jX =>
  intro e h Q hw
  simp only [W,ze] at hw
  split at hw
  .rename_i t ht
   cases t with
   |true =>
    obtain ⟨n,x,e1,h1,h2,h3⟩:=jW _ _ _ (hw.1 rfl)
    exact ⟨n,x,e1,h1,by simp only [eg,ht];exact h2,h3⟩
   |false =>
    obtain ⟨n,x,e1,h1,h2,h3⟩:=jX _ _ _ (hw.2 rfl)
    exact ⟨n,x,e1,h1,by simp only [eg,ht];exact h2,h3⟩
  .exact hw.elim
 |block id c ih =>
  intro e h Q hw
  simp only [W] at hw
  obtain ⟨n,x,e1,h1,h2,h3⟩:=ih _ _ _ hw
  cases x with
  |normal=>exact ⟨n,.normal,e1,h1,by simp only [eg];rw [h2],h3⟩
  |exit i =>
   by_cases hi:i=id
   .exact ⟨n,.normal,e1,h1,by simp only [eg,h2,aB hi],by simpa only [aB hi] using h3⟩
   .exact ⟨n,.exit i,e1,h1,by simp only [eg,h2,aA hi],by simpa only [aA hi] using h3⟩
  |ret=>exact ⟨n,.ret,e1,h1,by simp only [eg];rw [h2],h3⟩
 |loop c ih =>
  intro e h Q hw
  simp only [W] at hw
  obtain ⟨k,hw⟩:=hw
  have key:∀ (k:Nat) (e:Env) (h:Heap),ek (W P T ov rd c) Q k e h->∃ n x e' h',iter (eg P T (call P T ov n) (qw P T (call P T ov n)) rd n c) n e h=some (x,e',h')/\Q x e' h':=by
   intro k
   induction k with
   |zero=>intro e h hw;exact hw.elim
   |succ k lX =>
    intro e h hw
    simp only [ek] at hw
    obtain ⟨n,x,e1,h1,h2,h3⟩:=ih _ _ _ hw
    cases x with
    |normal =>
     obtain ⟨m,x,e2,h4,h5,h6⟩:=lX _ _ h3
     refine ⟨max n m+1,x,e2,h4,?_,h6⟩
     simp only [iter]
     rw [lift c e h _ (show n<=max n m+1 by omega) h2]
     exact zjJ (λe h r hr=>lift c e h r (show m<=max n m+1 by omega) hr) m (max n m) _ _ _ (Ap _ _) h5
    |exit id=>exact ⟨n+1,.exit id,e1,h1,by simp only [iter];rw [lift c e h _ (D3 n) h2],h3⟩
    |ret=>exact ⟨n+1,.ret,e1,h1,by simp only [iter];rw [lift c e h _ (D3 n) h2],h3⟩
  obtain ⟨n,x,e',h',h1,h2⟩:=key k e h hw
  exact ⟨n,x,e',h',by simp only [eg];exact h1,h2⟩
 |exit id=>intro e h Q hw;exact ⟨0,.exit id,e,h,rfl,hw⟩
 |ret=>intro e h Q hw;exact ⟨0,.ret,e,h,rfl,hw⟩
 |label l=>intro e h Q hw;exact ⟨0,.normal,e,h,rfl,hw⟩
 |rangeFunc g ps a b _ _ =>
  intro e h Q hw
  simp only [W,Jz] at hw
  split at hw
  .rename_i f fi ca hg
   obtain ⟨hc,n,v,h1,h2,h3⟩:=hw
   unfold QP at h3
   split at h3
   .rename_i x e' h' h4
    refine ⟨n,x,e',h',?_,h3⟩
    simp only [eg,Jy,hg]
    rw [aB hc,h2]
    exact h4
   .exact h3.elim
  .exact hw.elim
 |scope c ih=>intro e h Q hw;exact ih _ _ _ hw
 |goto l=>intro e h Q hw;exact hw.elim
 |refuse s=>intro e h Q hw;exact hw.elim

theorem Ok.enter {fn:Func} {h:Heap} (ho:ov f=none) (hf:T.fn f=some fn) (hc:fn.body=some c) (A9:T.Lw f=false)
 (hw:W P T ov none c (args++List.replicate (fn.ntmps - args.length) undef) h λx e' h'=>(x=.ret\/x=.normal)/\∃ v,qf T fn e' h'=some v/\K v h'):Ok P T ov f args h K:=by
 obtain ⟨n,x,e',h',h1,hx,v,h2,h3⟩:=W.sound _ _ _ _ hw
 refine ⟨n+1,v,h',?_,h3⟩
 simp only [call,ho,hf,hc,dX,h1,A9,gB,if_false]
 rcases hx with rfl|rfl <;> simp [h2]

def pt (P:Program) (T:bO) (ov:Ov):List Code->Env->Heap->(Env->Heap->Prop)->Prop
 | [],e,h,Q=>Q e h
 |c::cs,e,h,Q=>W P T ov none c e h λx e' h'=>x=.normal/\pt P T ov cs e' h' Q
theorem pt.sound:∀ (pre:List Code) (e:Env) (h:Heap) (Q:Env->Heap->Prop),pt P T ov pre e h Q->∃ n e' h',vO (eg P T (call P T ov n) (qw P T (call P T ov n)) none n) pre e h=some (e',h')/\Q e' h'
 | [],e,h,Q,hw=>⟨0,e,h,rfl,hw⟩
 |c::cs,e,h,Q,hw=>by
  simp only [pt] at hw
  obtain ⟨n,x,e1,h1,r1,rfl,hw⟩:=W.sound _ _ _ _ hw
  obtain ⟨k,e2,h2,r2,hq⟩:=pt.sound cs e1 h1 Q hw
  refine ⟨max n k,e2,h2,?_,hq⟩
  simp only [vO]
  rw [BQ (tz _ _ (Cf n k)) (BR (tz _ _ (Cf n k))) (Cf n k) none _ _ _ _ r1]
  exact zfh (λc e h r=>BQ (tz _ _ (Ap n k)) (BR (tz _ _ (Ap n k))) (Ap n k) none c e h r) _ _ _ _ r2

theorem Ci.round {A:Nat} {env:List ah} {ps:List Tmp} {assign body:Code} {st:LoopState} {gn:Option Code} {h:Heap} (hg:h.get A=some (.loop env ps assign body st gn)) (hl:args.length=ps.length)
 (hw:W P T ov (some A) assign (jy env ps args) h λx e1 h1=>x=.normal/\∃ sJ Gz Uw Uz ld,h1.get A=some (.loop sJ Gz Uw Uz .ready ld) /\
  W P T ov (some A) body e1 (h1.set A (.loop sJ Gz Uw Uz .busy ld)) λx _ h2=>dw (Dt A (match x with | .normal=>none | .ret=>some .ret | .exit id=>some (.exit id)) h2) K):Ci P T ov (.yield A) args h K:=by
 obtain ⟨n,x,e1,h1,r1,rfl,sJ,Gz,Uw,Uz,ld,r2,hw⟩:=W.sound _ _ _ _ hw
 obtain ⟨m,x,e2,h2,r3,hk⟩:=W.sound _ _ _ _ hw
 unfold dw at hk
 split at hk
 .rename_i v h' r4
  refine ⟨max n m+1,v,h',?_,hk⟩
  have l1:=BQ (P:=P) (T:=T) (tz (ov:=ov) n (max n m) (Cf _ _)) (BR (tz n (max n m) (Cf _ _))) (Cf n m) (some A) _ _ _ _ r1
  have l2:=BQ (P:=P) (T:=T) (tz (ov:=ov) m (max n m) (Ap _ _)) (BR (tz m (max n m) (Ap _ _))) (Ap n m) (some A) _ _ _ _ r3
  simp only [call,DC,hg,hl,if_true,l1,r2,l2]
  cases x <;> exact r4
 .exact hk.elim

theorem Ok.over {g:List ah->Heap->Option (ah × Heap)} {h h':Heap} {v:ah} (ho:ov f=some g) (hg:g args h=some (v,h')) (hk:K v h'):Ok P T ov f args h K :=
 ⟨1,v,h',by simp [call,ho,hg],hk⟩

theorem W.loop {c:Code} {e:Env} {h:Heap} {Q:Ex->Env->Heap->Prop} (I:Env->Heap->Prop) (μ:Env->Heap->Nat) (h0:I e h)
 (round:∀ e h,I e h->W P T ov rd c e h λx e' h'=>match x with | .normal=>I e' h'/\μ e' h' < μ e h|x=>Q x e' h') (hm:∀ e h Q Q',(∀ x e h,Q x e h->Q' x e h)->W P T ov rd c e h Q->W P T ov rd c e h Q'):W P T ov rd (.loop c) e h Q:=by
 have key:∀ (n:Nat) (e:Env) (h:Heap),μ e h < n->I e h->ek (W P T ov rd c) Q n e h:=by
  intro n
  induction n with
  |zero=>intro e h hn;omega
  |succ n ih =>
   intro e h hn hI
   simp only [ek]
   refine hm _ _ _ _ ?_ (round e h hI)
   intro x e' h'
   cases x with
   |normal=>exact λhh=>ih e' h' (by omega) hh.1
   |exit i=>exact λhh=>hh
   |ret=>exact λhh=>hh
 exact ⟨μ e h+1,key _ e h (so _) h0⟩

theorem cS.mono {o:Oper} {e:Env} {h:Heap} {K K':aI} (hk:∀ v h',K v h'->K' v h') (hw:cS P T ov o e h K):cS P T ov o e h K':=by
 unfold cS at hw ⊢
 split at hw
 .split at hw
  .exact hw.mono hk
  .exact ⟨hw.1,hw.2.mono hk⟩
  .exact hw.elim
 .split at hw
  .split at hw
   .exact hw.mono hk
   .exact hw.elim
  .exact hw.elim
 .unfold dw at hw ⊢
  split at hw
  .rename_i v h' h1;exact hk v h' hw
  .exact hw.elim
theorem dg.mono {ops:Array Oper}:∀ (l:List Oper) (e:Env) (h:Heap) (Q Q':Env->Heap->Prop),(∀ e h,Q e h->Q' e h)->dg P T ov ops l e h Q->dg P T ov ops l e h Q'
 | [],_,_,_,_,hq,hw=>hq _ _ hw
 |o::l,e,h,Q,Q',hq,hw=>by
  simp only [dg,rC] at hw ⊢
  split at hw
  .rename_i gW;rw [aB gW];exact cS.mono (λv h'=>dg.mono l _ _ _ _ hq) hw
  .rename_i gW;rw [aA gW];exact dg.mono l _ _ _ _ hq hw
theorem cB.mono {ops:Array Oper}:∀ (l:List Oper) (ks:List Nat) (e:Env) (h:Heap) (Q Q':List Nat->Env->Heap->Prop),(∀ ks e h,Q ks e h->Q' ks e h)->cB P T ov ops l ks e h Q->cB P T ov ops l ks e h Q'
 | [],_,_,_,_,_,hq,hw=>hq _ _ _ hw
 |o::l,ks,e,h,Q,Q',hq,hw=>by
  simp only [cB,rC] at hw ⊢
  split at hw
  .rename_i gW;rw [aB gW];exact cS.mono (λv h'=>cB.mono l _ _ _ _ _ hq) hw
  .rename_i gW;rw [aA gW];exact cB.mono l _ _ _ _ _ hq hw
theorem W.mono:∀ (c:Code) (e:Env) (h:Heap) (Q Q':Ex->Env->Heap->Prop),(∀ x e h,Q x e h->Q' x e h)->W P T ov rd c e h Q->W P T ov rd c e h Q':=by
 intro c
 induction c with
 |skip=>intro e h Q Q' hq hw;exact hq _ _ _ hw
 |region id ops d =>
  intro e h Q Q' hq hw
  cases d with
  |false=>exact dg.mono _ _ _ _ _ (hq _) hw
  |true=>exact cB.mono _ _ _ _ _ _ (λks e h hh=>⟨hh.1,hq _ _ _ hh.2⟩) hw
 |seq a b jW jX =>
  intro e h Q Q' hq hw
  simp only [W] at hw ⊢
  refine jW _ _ _ _ ?_ hw
  intro x e' h'
  cases x with
  |normal=>exact jX _ _ _ _ hq
  |exit id=>exact hq _ _ _
  |ret=>exact hq _ _ _
 |cond c a b jW jX =>
  intro e h Q Q' hq hw
  simp only [W,ze] at hw ⊢
  split at hw
  .exact ⟨λht=>jW _ _ _ _ hq (hw.1 ht),λht=>jX _ _ _ _ hq (hw.2 ht)⟩
  .exact hw.elim
 |block id c ih =>
  intro e h Q Q' hq hw
  simp only [W] at hw ⊢
  refine ih _ _ _ _ ?_ hw
  intro x e' h'
  cases x with
  |normal=>exact hq _ _ _
  |exit i =>
   intro hh
   by_cases hi:i=id
   .simp only [aB hi] at hh ⊢;exact hq _ _ _ hh
   .simp only [aA hi] at hh ⊢;exact hq _ _ _ hh
  |ret=>exact hq _ _ _
 |loop c ih =>
  intro e h Q Q' hq hw
  simp only [W] at hw ⊢
  obtain ⟨n,hw⟩:=hw
  exact ⟨n,ek.mono ih hq n e h hw⟩
 |exit id=>intro e h Q Q' hq hw;exact hq _ _ _ hw
 |ret=>intro e h Q Q' hq hw;exact hq _ _ _ hw
 |label l=>intro e h Q Q' hq hw;exact hq _ _ _ hw
 |rangeFunc g ps a b _ _ =>
  intro e h Q Q' hq hw
  simp only [W,Jz] at hw ⊢
  split at hw
  .refine ⟨hw.1,hw.2.mono λv h2 hh=>?_⟩
   unfold QP at hh ⊢
   split at hh
   .exact hq _ _ _ hh
   .exact hh.elim
  .exact hw.elim
 |scope c ih=>intro e h Q Q' hq hw;exact ih _ _ _ _ hq hw
 |goto l=>intro e h Q Q' hq hw;exact hw.elim
 |refuse s=>intro e h Q Q' hq hw;exact hw.elim

theorem pt.mono:∀ (pre:List Code) (e:Env) (h:Heap) (Q Q':Env->Heap->Prop),(∀ e h,Q e h->Q' e h)->pt P T ov pre e h Q->pt P T ov pre e h Q'
 | [],e,h,_,_,hq,hw=>hq e h hw
 |c::cs,_,_,Q,Q',hq,hw=>W.mono c _ _ _ _ (λ_ e' h' ⟨h1,h2⟩=>⟨h1,pt.mono cs e' h' Q Q' hq h2⟩) hw
theorem W.Nw {e:Env} {h:Heap} (I:Env->Heap->Prop) (μ:Env->Heap->Nat) (h0:I e h)
 (round:∀ e h,I e h->W P T ov rd c e h λx e' h'=>match x with | .normal=>I e' h'/\μ e' h' < μ e h|x=>Q x e' h'):W P T ov rd (.loop c) e h Q:=W.loop I μ h0 round (W.mono c)
structure Hid (p:Prop):Prop where
 out:p
theorem zAr (p:Prop):Hid p=p:=propext ⟨Hid.out,Hid.mk⟩
section
variable (P:Program) (T:bO) (ov:Ov) (rd:Option Nat)
def xb (ops:Array Oper) (l:List Oper) (d:Option Tmp) (Q:Env->Heap->Prop) (e:Env):aI:=λv h'=>Hid (dg P T ov ops l (put e d v) h' Q)
def T7 (ops:Array Oper) (o:Oper) (l:List Oper) (e:Env) (h:Heap) (Q:Env->Heap->Prop) (b:Bool):Prop:=if b=true then cS P T ov o e h (xb P T ov ops l o.dst Q e) else dg P T ov ops l (put e o.dst undef) h Q
def Ho (a b:Code) (e:Env) (h:Heap) (Q:Ex->Env->Heap->Prop) (v:ah):Prop:=ze v (W P T ov rd a e h Q) (W P T ov rd b e h Q)
def JQ (b:Code) (Q:Ex->Env->Heap->Prop):Ex->Env->Heap->Prop
 | .normal,e',h'=>W P T ov rd b e' h' Q
 | .exit i,e',h'=>Q (.exit i) e' h'
 | .ret,e',h'=>Q .ret e' h'
def DG (id:Nat) (Q:Ex->Env->Heap->Prop):Ex->Env->Heap->Prop
 | .normal,e',h'=>Q .normal e' h'
 | .exit i,e',h'=>if i=id then Q .normal e' h' else Q (.exit i) e' h'
 | .ret,e',h'=>Q .ret e' h'
def T9 (Q:Ex->Env->Heap->Prop):Env->Heap->Prop:=Q .normal
def jo (fn:Func) (K:aI):Ex->Env->Heap->Prop:=λx e' h'=>(x=.ret\/x=.normal)/\∃ v,qf T fn e' h'=some v/\K v h'
def Ak (e:Env):List Operand->List ah
 | []=>[]
 |x::xs=>bz e x::Ak e xs
def Qd (o:Oper):Bool:=match o.op with
 | .call ⟨.value _,_,_⟩=>true
 | .call ⟨.invoke _ _,_,_⟩=>true
 |_=>false
def vY (args:List ah) (h:Heap) (K:aI) (v:ah):Prop:=match v with
 | .func (.func g) fi ca=>Ok P T ov g (fi.toList++args++ca.toList) h K
 | .func (.yield A) fi ca=>(fi.isEmpty && ca.isEmpty)=true/\Ci P T ov (.yield A) args h K
 |_=>False
end

theorem P7 (e:Env):∀ xs:List Operand,xs.map (bz e)=Ak e xs
 | []=>rfl
 |x::xs=>by rw [lA,Ak,P7 e xs]
theorem zvE (e:Env):Ak e []=[]:=rfl
theorem zto (e:Env) (x:Operand) (xs:List Operand):Ak e (x::xs)=bz e x::Ak e xs:=rfl
theorem zxu (v:ah) (h:Heap) (K:aI):dw (some (v,h)) K=K v h:=rfl
theorem zyu (ops:Array Oper) (e:Env) (h:Heap) (Q:Env->Heap->Prop):dg P T ov ops [] e h Q=Q e h:=rfl
theorem zn0 (ops:Array Oper) (o:Oper) (l:List Oper) (e:Env) (h:Heap) (Q:Env->Heap->Prop):dg P T ov ops (o::l) e h Q=T7 P T ov ops o l e h Q (nx ops o e):=by
 simp only [dg,rC,T7]
 split
 .exact propext ⟨cS.mono λ_ _ hw=>⟨hw⟩,cS.mono λ_ _ hw=>hw.out⟩
 .rfl
theorem zuX (ops:Array Oper) (o:Oper) (l:List Oper) (e:Env) (h:Heap) (Q:Env->Heap->Prop):T7 P T ov ops o l e h Q true=cS P T ov o e h (xb P T ov ops l o.dst Q e):=rfl
theorem zrC (ops:Array Oper) (o:Oper) (l:List Oper) (e:Env) (h:Heap) (Q:Env->Heap->Prop):T7 P T ov ops o l e h Q false=dg P T ov ops l (put e o.dst undef) h Q:=rfl
theorem zys (ops:Array Oper) (l:List Oper) (d:Option Tmp) (Q:Env->Heap->Prop) (e:Env) (v:ah) (h:Heap):xb P T ov ops l d Q e v h=dg P T ov ops l (put e d v) h Q:=zAr _
theorem zr1 {o:Oper} {e:Env} {h:Heap} (hc:Qd o=false):cS P T ov o e h K=dw (gP P T Tw e o h) K:=by
 unfold cS
 split
 .rename_i aT;simp [Qd,aT] at hc
 .rename_i aT;simp [Qd,aT] at hc
 .rfl
theorem zyt (d:Option Tmp) (f:Operand) (args:List Operand) (ats:Array TypeId) (ty:TypeId) (pos:String) (af:Array Edge) (g:Option (Nat × Bool)) (e:Env) (h:Heap) (K:aI) :
 cS P T ov ⟨d,.call ⟨.value f,⟨args⟩,ats⟩,ty,pos,af,g⟩ e h K=vY P T ov (Ak e args) h K (bz e f):=by
 rw [<- P7];rfl
theorem rV (g:FuncId) (args:List ah) (h:Heap) (K:aI):vY P T ov args h K (.func (.func g) #[] #[])=Ok P T ov g args h K:=by
 simp [vY]
theorem zW (g:FuncId) (fi ca:Array ah) (args:List ah) (h:Heap) (K:aI):vY P T ov args h K (.func (.func g) fi ca)=Ok P T ov g (fi.toList++args++ca.toList) h K:=rfl
theorem zCP (e:Env) (h:Heap) (Q:Ex->Env->Heap->Prop):W P T ov rd .skip e h Q=Q .normal e h:=rfl
theorem zyv (id:Nat) (ops:List Oper) (e:Env) (h:Heap) (Q:Ex->Env->Heap->Prop):W P T ov rd (.region id ⟨ops⟩ false) e h Q=dg P T ov ⟨ops⟩ ops e h (T9 Q):=rfl
theorem zwV (Q:Ex->Env->Heap->Prop) (e:Env) (h:Heap):T9 Q e h=Q .normal e h:=rfl
theorem zCO (a b:Code) (e:Env) (h:Heap) (Q:Ex->Env->Heap->Prop):W P T ov rd (.seq a b) e h Q=W P T ov rd a e h (JQ P T ov rd b Q):=by
 simp only [W]
 congr 1
 funext x e' h'
 cases x <;> rfl
theorem zvz (id:Nat) (c:Code) (e:Env) (h:Heap) (Q:Ex->Env->Heap->Prop):W P T ov rd (.block id c) e h Q=W P T ov rd c e h (DG id Q):=by
 simp only [W]
 congr 1
 funext x e' h'
 cases x <;> rfl
theorem zCL (c:Operand) (a b:Code) (e:Env) (h:Heap) (Q:Ex->Env->Heap->Prop):W P T ov rd (.cond c a b) e h Q=Ho P T ov rd a b e h Q (bz e c):=rfl
theorem ztJ (a b:Code) (e:Env) (h:Heap) (Q:Ex->Env->Heap->Prop):Ho P T ov rd a b e h Q (.bool true)=W P T ov rd a e h Q:=by simp [Ho,ze]
theorem zqD (a b:Code) (e:Env) (h:Heap) (Q:Ex->Env->Heap->Prop):Ho P T ov rd a b e h Q (.bool false)=W P T ov rd b e h Q:=by simp [Ho,ze]
theorem zCM (id:Nat) (e:Env) (h:Heap) (Q:Ex->Env->Heap->Prop):W P T ov rd (.exit id) e h Q=Q (.exit id) e h:=rfl
theorem zDJ (e:Env) (h:Heap) (Q:Ex->Env->Heap->Prop):W P T ov rd .ret e h Q=Q .ret e h:=rfl
theorem zAJ (l:Nat) (e:Env) (h:Heap) (Q:Ex->Env->Heap->Prop):W P T ov rd (.label l) e h Q=Q .normal e h:=rfl
theorem zpY (b:Code) (Q:Ex->Env->Heap->Prop) (e:Env) (h:Heap):JQ P T ov rd b Q .normal e h=W P T ov rd b e h Q:=rfl
theorem zvb (b:Code) (Q:Ex->Env->Heap->Prop) (i:Nat) (e:Env) (h:Heap):JQ P T ov rd b Q (.exit i) e h=Q (.exit i) e h:=rfl
theorem zx9 (b:Code) (Q:Ex->Env->Heap->Prop) (e:Env) (h:Heap):JQ P T ov rd b Q .ret e h=Q .ret e h:=rfl
theorem zmF (id:Nat) (Q:Ex->Env->Heap->Prop) (e:Env) (h:Heap):DG id Q .normal e h=Q .normal e h:=rfl
theorem zqv (id:Nat) (Q:Ex->Env->Heap->Prop) (e:Env) (h:Heap):DG id Q (.exit id) e h=Q .normal e h:=by simp [DG]
theorem ztv (id:Nat) (Q:Ex->Env->Heap->Prop) (e:Env) (h:Heap):DG id Q .ret e h=Q .ret e h:=rfl
theorem Ok.YS {fn:Func} {h:Heap} (ho:ov f=none) (hf:T.fn f=some fn) (hc:fn.body=some c) (A9:T.Lw f=false) {m:Nat} (hm:fn.ntmps - args.length=m)
 (hw:W P T ov none c (args++List.replicate m undef) h (jo T fn K)):Ok P T ov f args h K:=Ok.enter ho hf hc A9 (by rw [hm];exact hw)
def T2 (I:Env->Heap->Prop) (μ:Env->Heap->Nat) (e:Env) (h:Heap) (Q:Ex->Env->Heap->Prop):Ex->Env->Heap->Prop
 | .normal,e',h'=>I e' h'/\μ e' h' < μ e h
 | .exit i,e',h'=>Q (.exit i) e' h'
 | .ret,e',h'=>Q .ret e' h'
theorem zt3 (I:Env->Heap->Prop) (μ:Env->Heap->Nat) (e:Env) (h:Heap) (Q:Ex->Env->Heap->Prop) (i:Nat) (e':Env) (h':Heap):T2 I μ e h Q (.exit i) e' h'=Q (.exit i) e' h':=rfl
theorem zwL (I:Env->Heap->Prop) (μ:Env->Heap->Nat) (e:Env) (h:Heap) (Q:Ex->Env->Heap->Prop) (e':Env) (h':Heap):T2 I μ e h Q .ret e' h'=Q .ret e' h':=rfl
theorem zo5 {I:Env->Heap->Prop} {μ:Env->Heap->Nat} {e:Env} {h:Heap} {e':Env} {h':Heap} (h1:I e' h') (h2:μ e' h' < μ e h):T2 I μ e h Q .normal e' h':=⟨h1,h2⟩
theorem zCN {e:Env} {h:Heap} (I:Env->Heap->Prop) (μ:Env->Heap->Nat) (h0:I e h) (round:∀ e h,I e h->W P T ov rd c e h (T2 I μ e h Q)):W P T ov rd (.loop c) e h Q :=
 W.Nw I μ h0 λe h hI=>W.mono c e h _ _ (λx e' h' hh=>by cases x <;> exact hh) (round e h hI)

section
variable (C:Fn->List ah->Heap->Option (ah × Heap)) (d:Option Tmp) (ty:TypeId) (pos:String) (af:Array Edge) (g:Option (Nat × Bool)) (e:Env) (h:Heap)
def zFk (c a b:ah) (h:Heap):Option (ah × Heap):=match c with | .bool t=>some (if t then a else b,h)|_=>none
theorem zB9 (t:TypeId) (x:Operand):gP P T C e ⟨d,.load t x,ty,pos,af,g⟩ h=(ic T t (bz e x) h).map λr=>(r,h):=rfl
def Y6 (v:ah) (h:Heap):Option (ah × Heap):=match v with
 | .pointer (some a)=>some (.pointer (some a),h)
 | .func (.func f) a b=>some (.func (.func f) a b,h)
 | .iface t a=>some (.iface t a,h)
 |_=>none
def Zx (v:ah) (i:Nat) (h:Heap):Option (ah × Heap):=match v with | .tuple vs=>(vs[i]?).map λr=>(r,h)|_=>none
end
theorem zyp (ops:Array Oper) (d:Option Tmp) (op:Op) (ty:TypeId) (pos:String) (af:Array Edge) (e:Env):nx ops ⟨d,op,ty,pos,af,none⟩ e=true:=rfl
def B7 (v:ah) (b:Bool):Bool:=match v with | .bool c=>c == b|_=>false

theorem Dx {op:BinOp} {t:TypeId} {k:IntKind} {a b:Int} {v:ah} (hv:r8 op (.int k a) (.int k b)=some v):cm P T op t (.int k a) (.int k b)=some v:=by simp [cm,hv]
section
variable (t:TypeId) (k:IntKind) (a b:Int)
theorem zAY:cm P T .add t (.int k a) (.int k b)=some (.int k (k.wrap (a+b))):=Dx (by simp [r8])
theorem zBa:cm P T .sub t (.int k a) (.int k b)=some (.int k (k.wrap (a - b))):=Dx (by simp [r8])
theorem zA0:cm P T .eql t (.int k a) (.int k b)=some (.bool (a == b)):=Dx (by simp [r8])
theorem zA5:cm P T .neq t (.int k a) (.int k b)=some (.bool (a != b)):=Dx (by simp [r8])
theorem zA4:cm P T .lss t (.int k a) (.int k b)=some (.bool (a < b)):=Dx (by simp [r8])
theorem zA3:cm P T .leq t (.int k a) (.int k b)=some (.bool (a<=b)):=Dx (by simp [r8])
theorem zA2:cm P T .gtr t (.int k a) (.int k b)=some (.bool (a > b)):=Dx (by simp [r8])
theorem zA1:cm P T .geq t (.int k a) (.int k b)=some (.bool (a >= b)):=Dx (by simp [r8])
end

end
end Go.Am
