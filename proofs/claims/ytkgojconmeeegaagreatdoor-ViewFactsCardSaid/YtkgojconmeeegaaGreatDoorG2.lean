/- More fuel changes nothing. No condition. -/
import Derived.Test.YtkgojconmeeegaaGreatDoorG1
set_option linter.unusedSimpArgs false
namespace Go.Am
variable {r:ae × Heap} {h:Heap} {E E':Code->Env->Heap->Option (Ex × Env × Heap)}

def Dh (C C':Fn->List ae->Heap->Option (ae × Heap)):Prop:=∀ f args h r,C f args h=some r->C' f args h=some r
def DLe (D D':Array Oper->Env->Heap->Option (Env × Heap)):Prop:=∀ ops e h r,D ops e h=some r->D' ops e h=some r

section
variable {P:Program} {T:bL} {C C':Fn->List ae->Heap->Option (ae × Heap)}

theorem I9 (hC:Dh C C') {e:Env} {o:Oper} (an:jc P T C e o h=some r):jc P T C' e o h=some r:=by
 obtain ⟨dst,op,ty,pos,after,guard⟩:=o
 cases op <;> simp only [jc] at an ⊢ <;> try exact an
 case call c =>
  obtain ⟨callee,args,iy⟩:=c
  cases callee with
  |value f =>
   simp only at an ⊢
   split at an
   .exact hC _ _ _ _ an
   .split at an
    .rename_i hc;rw [aE hc];exact hC _ _ _ _ an
    .cases an
   .cases an
  |invoke rv m =>
   simp only at an ⊢
   split at an
   .simp only [cH,Prod.exists] at an ⊢
    obtain ⟨f,y,hm,an⟩:=an
    exact ⟨f,y,hm,hC _ _ _ _ an⟩
   .cases an
  |builtin b=>cases b <;> exact an

theorem Uc (hC:Dh C C') {ops:Array Oper}:∀ (l:List Oper) (e:Env) (h:Heap) (r:Env × Heap),tU P T C ops l e h=some r->tU P T C' ops l e h=some r
 | [],_,_,_,an=>an
 |o::l,e,h,r,an=>by
  simp only [tU] at an ⊢
  split at an
  .rename_i hw
   rw [aE hw]
   split at an
   .rename_i v h1 h2
    rw [I9 hC h2]
    exact Uc hC l _ _ _ an
   .cases an
  .rename_i hw
   rw [az hw]
   exact Uc hC l _ _ _ an

theorem T2 (hC:Dh C C') {ops:Array Oper}:∀ (l:List Oper) (e:Env) (h:Heap) (r:List Nat × Env × Heap),sH P T C ops l e h=some r->sH P T C' ops l e h=some r
 | [],_,_,_,an=>an
 |o::l,e,h,r,an=>by
  simp only [sH] at an ⊢
  split at an
  .rename_i hw
   rw [aE hw]
   split at an
   .rename_i v h1 h2
    rw [I9 hC h2]
    simp only [cC,Prod.exists] at an ⊢
    obtain ⟨ks,x1,x2,hr,rfl⟩:=an
    exact ⟨ks,x1,x2,T2 hC l _ _ _ hr,rfl⟩
   .cases an
  .rename_i hw
   rw [az hw]
   simp only [cC,Prod.exists] at an ⊢
   obtain ⟨ks,x1,x2,hr,rfl⟩:=an
   exact ⟨ks,x1,x2,T2 hC l _ _ _ hr,rfl⟩

theorem Hq (hC:Dh C C'):DLe (rO P T C) (rO P T C'):=by
 intro ops e h r an
 unfold rO at an ⊢
 split at an
 .rename_i hr
  rw [T2 hC _ _ _ _ hr]
  exact an
 .cases an

theorem zjy {f f':Env->Heap->Option (Ex × Env × Heap)} (hf:∀ e h r,f e h=some r->f' e h=some r):∀ (n m:Nat) (e:Env) (h:Heap) (r:Ex × Env × Heap),n<=m->iter f n e h=some r->iter f' m e h=some r
 |0,_,_,_,_,_,hi=>by simp [iter] at hi
 |n+1,0,_,_,_,hle,_=>by omega
 |n+1,m+1,e,h,r,hle,hi=>by
  simp only [iter] at hi ⊢
  split at hi
  .rename_i e1 h1 h2
   rw [hf _ _ _ h2]
   exact zjy hf n m _ _ _ (by omega) hi
  .rename_i ba
   rw [hf _ _ _ hi]
   obtain ⟨x,e1,h1⟩:=r
   cases x with
   |normal=>exact (ba _ _ hi).elim
   |exit id=>rfl
   |ret=>rfl

theorem Hp (hC:Dh C C') {D D':Array Oper->Env->Heap->Option (Env × Heap)} (hD:DLe D D') {n m:Nat} (yE:n<=m) (rd:Option Nat):∀ (c:Code) (e:Env) (h:Heap) (r:Ex × Env × Heap),en P T C D rd n c e h=some r->en P T C' D' rd m c e h=some r:=by
 intro c
 induction c with
 |skip=>intro e h r an;exact an
 |region id ops d =>
  intro e h r an
  simp only [en,cC,Prod.exists] at an ⊢
  obtain ⟨e1,h1,hr,rfl⟩:=an
  refine ⟨e1,h1,?_,rfl⟩
  cases d with
  |true=>simp only [if_true] at hr ⊢;exact hD _ _ _ _ hr
  |false=>simp only [gW,if_false] at hr ⊢;exact Uc hC _ _ _ _ hr
 |seq a b jU jV =>
  intro e h r an
  simp only [en] at an ⊢
  split at an
  .rename_i e1 h1 h2
   rw [jU _ _ _ h2]
   exact jV _ _ _ an
  .rename_i ba
   rw [jU _ _ _ an]
   obtain ⟨x,e1,h1⟩:=r
   cases x with
   |normal=>exact (ba _ _ an).elim
   |exit id=>rfl
   |ret=>rfl
 |cond c a b jU jV =>
  intro e h r an
  simp only [en] at an ⊢
  split at an
  .exact jU _ _ _ an
  .exact jV _ _ _ an
  .cases an
 |block id c ih =>
  intro e h r an
  simp only [en] at an ⊢
  split at an
  .rename_i i e1 h1 h2
   rw [ih _ _ _ h2]
   exact an
  .rename_i ba
   rw [ih _ _ _ an]
   obtain ⟨x,e1,h1⟩:=r
   cases x with
   |normal=>rfl
   |exit id=>exact (ba _ _ _ an).elim
   |ret=>rfl
 |loop c ih=>intro e h r an;simp only [en] at an ⊢;exact zjy ih n m _ _ _ yE an
 |exit id=>intro e h r an;exact an
 |ret=>intro e h r an;exact an
 |label l=>intro e h r an;exact an
 |rangeFunc f ps a b _ _ =>
  intro e h r an
  simp only [en,JO] at an ⊢
  split at an
  .split at an
   .rename_i hc
    rw [aE hc]
    split at an
    .rename_i hr;rw [hC _ _ _ _ hr];exact an
    .cases an
   .cases an
  .cases an
 |scope c ih=>intro e h r an;exact ih _ _ _ an
 |goto l=>intro e h r an;simp [en] at an
 |refuse s=>intro e h r an;simp [en] at an

theorem zsc (hE:∀ c e h r,E c e h=some r->E' c e h=some r) {A:Nat} {args:List ae} (an:EL E A args h=some r):EL E' A args h=some r:=by
 unfold EL at an ⊢
 split at an
 .split at an
  .rename_i hc
   simp only [aE hc]
   split at an
   .rename_i h1
    rw [hE _ _ _ _ h1]
    simp only
    split at an
    .split at an
     .rename_i h2;rw [hE _ _ _ _ h2];exact an
     .rename_i h2;rw [hE _ _ _ _ h2];exact an
     .rename_i h2;rw [hE _ _ _ _ h2];exact an
     .cases an
    .cases an
   .cases an
  .cases an
 .cases an

theorem zih {E E':Code->Env->Heap->Option (Ex × Env × Heap)} (hE:∀ c e h r,E c e h=some r->E' c e h=some r):∀ (pre:List Code) (e:Env) (h:Heap) (r:Env × Heap),zx E pre e h=some r->zx E' pre e h=some r
 | [],_,_,_,an=>an
 |c::cs,e,h,r,an=>by
  simp only [zx] at an ⊢
  split at an
  .rename_i hr
   rw [hE _ _ _ _ hr]
   exact zih hE cs _ _ _ an
  .cases an
theorem zjA (hE:∀ c e h r,E c e h=some r->E' c e h=some r) {fn:Func} {g:ae} {e3:Env} {h3:Heap} (an:we T E fn g e3 h3=some r):we T E' fn g e3 h3=some r:=by
 unfold we at an ⊢
 split at an
 .simp only [cH] at an ⊢
  obtain ⟨fg,h1,cg,h2,an⟩:=an
  refine ⟨fg,h1,cg,h2,?_⟩
  split at an
  .rename_i hn
   rw [aE hn]
   split at an
   .rename_i hr
    rw [hE _ _ _ _ hr]
    exact an
   .rename_i hr
    rw [hE _ _ _ _ hr]
    exact an
   .cases an
  .cases an
 .cases an
theorem zrk {C C':Fn->List ae->Heap->Option (ae × Heap)} (hC:Dh C C') (hE:∀ c e h r,E c e h=some r->E' c e h=some r) {fn:Func} {c:Code} {e:Env} (an:EF P T E C fn c e h=some r):EF P T E' C' fn c e h=some r:=by
 unfold EF at an ⊢
 simp only [cH,Prod.exists] at an ⊢
 obtain ⟨pre,m,t,rest,cP,an⟩:=an
 refine ⟨pre,m,t,rest,cP,?_⟩
 split at an
 .rename_i hn
  rw [aE hn]
  simp only [cH,Prod.exists] at an ⊢
  obtain ⟨e1,h1,hp,v1,h2,ho,an⟩:=an
  refine ⟨e1,h1,zih hE _ _ _ _ hp,v1,h2,I9 hC ho,?_⟩
  split at an
  .rename_i hr
   rw [hE _ _ _ _ hr]
   exact zjA hE an
  .rename_i hr
   rw [hE _ _ _ _ hr]
   exact zjA hE an
  .cases an
 .cases an
theorem zo {ov:Ov}:∀ (n m:Nat),n<=m->Dh (call P T ov n) (call P T ov m)
 |0,_,_=>by intro f args h r an;simp [call] at an
 |n+1,0,hle=>by omega
 |n+1,m+1,hle=>by
  intro f args h r an
  have ih:=zo (ov:=ov) n m (by omega)
  cases f with
  |func f =>
   simp only [call] at an ⊢
   split at an
   .exact an
   .simp only [cH] at an ⊢
    obtain ⟨fn,vz,c,hc,an⟩:=an
    refine ⟨fn,vz,c,hc,?_⟩
    split at an
    .rename_i BF
     rw [aE BF]
     exact zrk ih (λc e h r hr=>Hp ih (Hq ih) (by omega) none c e h r hr) an
    rename_i BF
    rw [az BF]
    split at an
    .rename_i hr
     rw [Hp ih (Hq ih) (by omega) none _ _ _ _ hr]
     exact an
    .rename_i hr
     rw [Hp ih (Hq ih) (by omega) none _ _ _ _ hr]
     exact an
    .cases an
  |yield A =>
   simp only [call] at an ⊢
   exact zsc (λc e h r hr=>Hp ih (Hq ih) (by omega) (some A) c e h r hr) an
  |_=>simp [call] at an
end
end Go.Am
namespace Go.Am
variable {K:aG} {args:List ae} {f:FuncId} {c:Code} {Q:Ex->Env->Heap->Prop}

structure Ext (h h':Heap):Prop where
 size:h.size<=h'.size
 get:∀ A,A < h.size->h'.get A=h.get A
 low:min h.low h.size<=h'.low

theorem Ext.refl (h:Heap):Ext h h:=⟨bo _,λ_ _=>rfl,zN _ _⟩
theorem Ext.trans {a b c:Heap} (h:Ext a b) (k:Ext b c):Ext a c :=
 ⟨il h.size k.size,λA hA=>(k.get A (eW hA h.size)).trans (h.get A hA),by have:=h.low;have:=k.low;have:=h.size;omega⟩
theorem Ext.push (h:Heap) (b:bh):Ext h (h.push b):=⟨EZ _,λA hA=>by rw [Heap.bx,az (by omega)],by rw [Heap.dv];omega⟩

section
variable (P:Program) (T:bL) (ov:Ov)

def AY (f:Fn) (args:List ae) (h:Heap) (K:aG):Prop:=∃ n v h',call P T ov n f args h=some (v,h')/\K v h'
def Ok (f:FuncId) (args:List ae) (h:Heap) (K:aG):Prop:=AY P T ov (.func f) args h K

def dx (r:Option (ae × Heap)) (K:aG):Prop:=match r with
 |some (v,h')=>K v h'
 |none=>False
def Ie (v:ae) (A B:Prop):Prop:=match v with
 | .bool t=>(t=true->A)/\(t=false->B)
 |_=>False
def sV (b:Bool) (A B:Prop):Prop:=if b=true then A else B

def zrP:Fn->List ae->Heap->Option (ae × Heap):=λ_ _ _=>none

def cy (o:Oper) (e:Env) (h:Heap) (K:aG):Prop :=
 match o.op with
 | .call ⟨.value f,args,_⟩=>match bz e f with
  | .func (.func g) fi ca=>Ok P T ov g (fi.toList++args.toList.map (bz e)++ca.toList) h K
  | .func (.yield A) fi ca=>(fi.isEmpty && ca.isEmpty)=true/\AY P T ov (.yield A) (args.toList.map (bz e)) h K
  |_=>False
 | .call ⟨.invoke r name,args,_⟩=>match bz e r with
  | .iface t x=>(match wX T t x name h with
   |some (f,y)=>Ok P T ov f (y::args.toList.map (bz e)) h K
   |none=>False)
  |_=>False
 |_=>dx (jc P T zrP e o h) K

def dA (ops:Array Oper):List Oper->Env->Heap->(Env->Heap->Prop)->Prop
 | [],e,h,Q=>Q e h
 |o::l,e,h,Q=>sV (nP ops o e) (cy P T ov o e h λv h'=>dA ops l (put e o.dst v) h' Q) (dA ops l (put e o.dst undef) h Q)

def cn (ops:Array Oper):List Oper->List Nat->Env->Heap->(List Nat->Env->Heap->Prop)->Prop
 | [],ks,e,h,Q=>Q ks e h
 |o::l,ks,e,h,Q =>
  sV (nP ops o e) (cy P T ov o e { h with low:=h.size } λv h' =>
   cn ops l (ks++[kJ T o e h h']) (put e o.dst v) { h' with low:=min h.low h'.low } Q)
   (cn ops l (ks++[0]) (put e o.dst undef) h Q)

def ep (W:Env->Heap->(Ex->Env->Heap->Prop)->Prop) (Q:Ex->Env->Heap->Prop):Nat->Env->Heap->Prop
 |0,_,_=>False
 |n+1,e,h=>W e h fun
  | .normal,e',h'=>ep W Q n e' h'
  |x,e',h'=>Q x e' h'

def Kg (r:Option (Ex × Env × Heap)) (Q:Ex->Env->Heap->Prop):Prop:=match r with
 |some (x,e,h)=>Q x e h
 |none=>False
def C1 (rd:Option Nat) (g:ae) (ps:List Tmp) (assign body:Code) (e:Env) (h:Heap) (Q:Ex->Env->Heap->Prop):Prop :=
 match g with
 | .func (.func f) fi ca=>(UD rd h && RU T f)=true /\
  Ok P T ov f (fi.toList++[.func (.yield h.size) #[] #[]]++ca.toList) (h.push (.loop e ps assign body .ready none)) λ_ h2=>Kg (Et h.size e h2) Q
 |_=>False
def W (rd:Option Nat):Code->Env->Heap->(Ex->Env->Heap->Prop)->Prop
 | .skip,e,h,Q=>Q .normal e h
 | .region _ ops false,e,h,Q=>dA P T ov ops ops.toList e h (Q .normal)
 | .region _ ops true,e,h,Q=>cn P T ov ops ops.toList [] e h λks e' h'=>HV ops ks (nS ops.toList [])=true/\Q .normal e' h'
 | .seq a b,e,h,Q=>W rd a e h fun
  | .normal,e',h'=>W rd b e' h' Q
  |x,e',h'=>Q x e' h'
 | .cond c a b,e,h,Q=>Ie (bz e c) (W rd a e h Q) (W rd b e h Q)
 | .block id c,e,h,Q=>W rd c e h fun
  | .exit i,e',h'=>if i=id then Q .normal e' h' else Q (.exit i) e' h'
  |x,e',h'=>Q x e' h'
 | .loop c,e,h,Q=>∃ n,ep (W rd c) Q n e h
 | .exit id,e,h,Q=>Q (.exit id) e h
 | .ret,e,h,Q=>Q .ret e h
 | .label _,e,h,Q=>Q .normal e h
 | .scope c,e,h,Q=>W rd c e h Q
 | .rangeFunc g ps assign body,e,h,Q=>C1 P T ov rd (bz e g) ps.toList assign body e h Q
 |_,_,_,_=>False
end

section
variable {P:Program} {T:bL} {ov:Ov} {rd:Option Nat}

theorem AY.mono {f:Fn} {h:Heap} {K':aG} (hk:AY P T ov f args h K) (hm:∀ v h',K v h'->K' v h'):AY P T ov f args h K':=by
 obtain ⟨n,v,h',h1,h2⟩:=hk
 exact ⟨n,v,h',h1,hm v h' h2⟩
theorem Ok.mono {h:Heap} {K':aG} (hk:Ok P T ov f args h K) (hm:∀ v h',K v h'->K' v h'):Ok P T ov f args h K':=by
 obtain ⟨n,v,h',h1,h2⟩:=hk
 exact ⟨n,v,h',h1,hm v h' h2⟩

theorem zuV (C:Fn->List ae->Heap->Option (ae × Heap)):Dh zrP C:=by intro f args h r hr;cases hr

theorem cy.sound {o:Oper} {e:Env} {h:Heap} (hw:cy P T ov o e h K):∃ n v h',jc P T (call P T ov n) e o h=some (v,h')/\K v h':=by
 unfold cy at hw
 split at hw
 .rename_i f args iy aZ
  split at hw
  .rename_i g fi ca hf
   obtain ⟨n,v,h',h1,h2⟩:=hw
   refine ⟨n,v,h',?_,h2⟩
   unfold jc
   simp only [aZ,hf]
   exact h1
  .rename_i A fi ca hf
   obtain ⟨hc,n,v,h',h1,h2⟩:=hw
   refine ⟨n,v,h',?_,h2⟩
   unfold jc
   simp only [aZ,hf]
   rw [aE hc]
   exact h1
  .exact hw.elim
 .rename_i r name args iy aZ
  split at hw
  .rename_i t x hr
   split at hw
   .rename_i f y hm
    obtain ⟨n,v,h',h1,h2⟩:=hw
    refine ⟨n,v,h',?_,h2⟩
    unfold jc
    simp only [aZ,hr,hm]
    exact h1
   .exact hw.elim
  .exact hw.elim
 .unfold dx at hw
  split at hw
  .rename_i v h' h1
   exact ⟨0,v,h',I9 (zuV _) h1,hw⟩
  .exact hw.elim

theorem dA.sound {ops:Array Oper}:∀ (l:List Oper) (e:Env) (h:Heap) (Q:Env->Heap->Prop),dA P T ov ops l e h Q->∃ n e' h',tU P T (call P T ov n) ops l e h=some (e',h')/\Q e' h'
 | [],e,h,Q,hw=>⟨0,e,h,rfl,hw⟩
 |o::l,e,h,Q,hw=>by
  simp only [dA,sV] at hw
  split at hw
  .rename_i iE
   obtain ⟨n,v,h1,h2,h3⟩:=cy.sound hw
   obtain ⟨m,e',h',h4,h5⟩:=dA.sound l _ _ _ h3
   refine ⟨max n m,e',h',?_,h5⟩
   simp only [tU,iE,if_true]
   rw [I9 (zo n (max n m) (J6 _ _)) h2]
   exact Uc (zo m (max n m) (H7 _ _)) _ _ _ _ h4
  .rename_i iE
   obtain ⟨m,e',h',h4,h5⟩:=dA.sound l _ _ _ hw
   refine ⟨m,e',h',?_,h5⟩
   simp only [tU]
   rw [az iE]
   exact h4

theorem cn.sound {ops:Array Oper}:∀ (l:List Oper) (ks:List Nat) (e:Env) (h:Heap) (Q:List Nat->Env->Heap->Prop),cn P T ov ops l ks e h Q ->
 ∃ n eI e' h',sH P T (call P T ov n) ops l e h=some (eI,e',h')/\Q (ks++eI) e' h'
 | [],ks,e,h,Q,hw=>⟨0,[],e,h,rfl,by rw [bu];exact hw⟩
 |o::l,ks,e,h,Q,hw=>by
  simp only [cn,sV] at hw
  split at hw
  .rename_i iE
   obtain ⟨n,v,h1,h2,h3⟩:=cy.sound hw
   obtain ⟨m,eI,e',h',h4,h5⟩:=cn.sound l _ _ _ _ h3
   refine ⟨max n m,_::eI,e',h',?_,by rw [jD] at h5;exact h5⟩
   simp only [sH,iE,if_true]
   rw [I9 (zo n (max n m) (J6 _ _)) h2]
   simp only [T2 (zo m (max n m) (H7 _ _)) _ _ _ _ h4,jZ]
  .rename_i iE
   obtain ⟨m,eI,e',h',h4,h5⟩:=cn.sound l _ _ _ _ hw
   refine ⟨m,0::eI,e',h',?_,by rw [jD] at h5;exact h5⟩
   simp only [sH]
   rw [az iE,h4]
   rfl

theorem ep.mono {W:Env->Heap->(Ex->Env->Heap->Prop)->Prop} (hW:∀ e h Q Q',(∀ x e h,Q x e h->Q' x e h)->W e h Q->W e h Q') {Q Q':Ex->Env->Heap->Prop} (hq:∀ x e h,Q x e h->Q' x e h):∀ (n:Nat) (e:Env) (h:Heap),ep W Q n e h->ep W Q' n e h
 |0,_,_,hw=>hw
 |n+1,e,h,hw=>by
  simp only [ep] at hw ⊢
  refine hW _ _ _ _ ?_ hw
  intro x e' h'
  cases x with
  |normal=>exact ep.mono hW hq n e' h'
  |exit id=>exact hq _ _ _
  |ret=>exact hq _ _ _

theorem W.sound:∀ (c:Code) (e:Env) (h:Heap) (Q:Ex->Env->Heap->Prop),W P T ov rd c e h Q->∃ n x e' h',en P T (call P T ov n) (rO P T (call P T ov n)) rd n c e h=some (x,e',h')/\Q x e' h':=by
 intro c
 have lift:∀ {n m:Nat} (c:Code) (e:Env) (h:Heap) (r:Ex × Env × Heap),n<=m->en P T (call P T ov n) (rO P T (call P T ov n)) rd n c e h=some r->en P T (call P T ov m) (rO P T (call P T ov m)) rd m c e h=some r :=
  λc e h r yE=>Hp (zo _ _ yE) (Hq (zo _ _ yE)) yE rd c e h r
 induction c with
 |skip=>intro e h Q hw;exact ⟨0,.normal,e,h,rfl,hw⟩
 |region id ops d =>
  intro e h Q hw
  cases d with
  |false =>
   simp only [W] at hw
   obtain ⟨n,e',h',h1,h2⟩:=dA.sound _ _ _ _ hw
   exact ⟨n,.normal,e',h',by simp [en,h1],h2⟩
  |true =>
   simp only [W] at hw
   obtain ⟨n,ks,e',h',h1,h2,h3⟩:=cn.sound _ _ _ _ _ hw
   rw [qu] at h2
   refine ⟨n,.normal,e',h',?_,h3⟩
   simp [en,rO,h1,h2]
 |seq a b jU jV =>
  intro e h Q hw
  simp only [W] at hw
  obtain ⟨n,x,e1,h1,h2,h3⟩:=jU _ _ _ hw
  cases x with
  |normal =>
   obtain ⟨m,x,e2,h4,h5,h6⟩:=jV _ _ _ h3
   refine ⟨max n m,x,e2,h4,?_,h6⟩
   simp only [en]
   rw [lift a e h _ (J6 n m) h2]
   exact lift b _ _ _ (H7 n m) h5
  |exit id=>exact ⟨n,.exit id,e1,h1,by simp only [en];rw [h2],h3⟩
  |ret=>exact ⟨n,.ret,e1,h1,by simp only [en];rw [h2],h3⟩
 |cond c a b jU jV =>
  intro e h Q hw
  simp only [W,Ie] at hw
  split at hw
  .rename_i t ht
   cases t with
   |true =>
    obtain ⟨n,x,e1,h1,h2,h3⟩:=jU _ _ _ (hw.1 rfl)
    exact ⟨n,x,e1,h1,by simp only [en,ht];exact h2,h3⟩
   |false =>
    obtain ⟨n,x,e1,h1,h2,h3⟩:=jV _ _ _ (hw.2 rfl)
    exact ⟨n,x,e1,h1,by simp only [en,ht];exact h2,h3⟩
  .exact hw.elim
 |block id c ih =>
  intro e h Q hw
  simp only [W] at hw
  obtain ⟨n,x,e1,h1,h2,h3⟩:=ih _ _ _ hw
  cases x with
  |normal=>exact ⟨n,.normal,e1,h1,by simp only [en];rw [h2],h3⟩
  |exit i =>
   by_cases hi:i=id
   .exact ⟨n,.normal,e1,h1,by simp only [en,h2,aE hi],by simpa only [aE hi] using h3⟩
   .exact ⟨n,.exit i,e1,h1,by simp only [en,h2,az hi],by simpa only [az hi] using h3⟩
  |ret=>exact ⟨n,.ret,e1,h1,by simp only [en];rw [h2],h3⟩
 |loop c ih =>
  intro e h Q hw
  simp only [W] at hw
  obtain ⟨k,hw⟩:=hw
  have key:∀ (k:Nat) (e:Env) (h:Heap),ep (W P T ov rd c) Q k e h->∃ n x e' h',iter (en P T (call P T ov n) (rO P T (call P T ov n)) rd n c) n e h=some (x,e',h')/\Q x e' h':=by
   intro k
   induction k with
   |zero=>intro e h hw;exact hw.elim
   |succ k n9 =>
    intro e h hw
    simp only [ep] at hw
    obtain ⟨n,x,e1,h1,h2,h3⟩:=ih _ _ _ hw
    cases x with
    |normal =>
     obtain ⟨m,x,e2,h4,h5,h6⟩:=n9 _ _ h3
     refine ⟨max n m+1,x,e2,h4,?_,h6⟩
     simp only [iter]
     rw [lift c e h _ (show n<=max n m+1 by omega) h2]
     exact zjy (λe h r hr=>lift c e h r (show m<=max n m+1 by omega) hr) m (max n m) _ _ _ (H7 _ _) h5
    |exit id=>exact ⟨n+1,.exit id,e1,h1,by simp only [iter];rw [lift c e h _ (EZ n) h2],h3⟩
    |ret=>exact ⟨n+1,.ret,e1,h1,by simp only [iter];rw [lift c e h _ (EZ n) h2],h3⟩
  obtain ⟨n,x,e',h',h1,h2⟩:=key k e h hw
  exact ⟨n,x,e',h',by simp only [en];exact h1,h2⟩
 |exit id=>intro e h Q hw;exact ⟨0,.exit id,e,h,rfl,hw⟩
 |ret=>intro e h Q hw;exact ⟨0,.ret,e,h,rfl,hw⟩
 |label l=>intro e h Q hw;exact ⟨0,.normal,e,h,rfl,hw⟩
 |rangeFunc g ps a b _ _ =>
  intro e h Q hw
  simp only [W,C1] at hw
  split at hw
  .rename_i f fi ca hg
   obtain ⟨hc,n,v,h1,h2,h3⟩:=hw
   unfold Kg at h3
   split at h3
   .rename_i x e' h' h4
    refine ⟨n,x,e',h',?_,h3⟩
    simp only [en,JO,hg]
    rw [aE hc,h2]
    exact h4
   .exact h3.elim
  .exact hw.elim
 |scope c ih=>intro e h Q hw;exact ih _ _ _ hw
 |goto l=>intro e h Q hw;exact hw.elim
 |refuse s=>intro e h Q hw;exact hw.elim

theorem Ok.enter {fn:Func} {h:Heap} (ho:ov f=none) (hf:T.fn f=some fn) (hc:fn.body=some c) (BF:T.MC f=false)
 (hw:W P T ov none c (args++List.replicate (fn.ntmps - args.length) undef) h λx e' h'=>(x=.ret\/x=.normal)/\∃ v,mV T fn e' h'=some v/\K v h'):Ok P T ov f args h K:=by
 obtain ⟨n,x,e',h',h1,hx,v,h2,h3⟩:=W.sound _ _ _ _ hw
 refine ⟨n+1,v,h',?_,h3⟩
 simp only [call,ho,hf,hc,dX,h1,BF,gW,if_false]
 rcases hx with rfl|rfl <;> simp [h2]


theorem AY.round {A:Nat} {env:List ae} {ps:List Tmp} {assign body:Code} {st:LoopState} {gh:Option Code} {h:Heap} (hg:h.get A=some (.loop env ps assign body st gh)) (hl:args.length=ps.length)
 (hw:W P T ov (some A) assign (iI env ps args) h λx e1 h1=>x=.normal/\∃ tq Hc VQ VS k5,h1.get A=some (.loop tq Hc VQ VS .ready k5) /\
  W P T ov (some A) body e1 (h1.set A (.loop tq Hc VQ VS .busy k5)) λx _ h2=>dx (CD A (match x with | .normal=>none | .ret=>some .ret | .exit id=>some (.exit id)) h2) K):AY P T ov (.yield A) args h K:=by
 obtain ⟨n,x,e1,h1,r1,rfl,tq,Hc,VQ,VS,k5,r2,hw⟩:=W.sound _ _ _ _ hw
 obtain ⟨m,x,e2,h2,r3,hk⟩:=W.sound _ _ _ _ hw
 unfold dx at hk
 split at hk
 .rename_i v h' r4
  refine ⟨max n m+1,v,h',?_,hk⟩
  have l1:=Hp (P:=P) (T:=T) (zo (ov:=ov) n (max n m) (J6 _ _)) (Hq (zo n (max n m) (J6 _ _))) (J6 n m) (some A) _ _ _ _ r1
  have l2:=Hp (P:=P) (T:=T) (zo (ov:=ov) m (max n m) (H7 _ _)) (Hq (zo m (max n m) (H7 _ _))) (H7 n m) (some A) _ _ _ _ r3
  simp only [call,EL,hg,hl,if_true,l1,r2,l2]
  cases x <;> exact r4
 .exact hk.elim

theorem Ok.over {g:List ae->Heap->Option (ae × Heap)} {h h':Heap} {v:ae} (ho:ov f=some g) (hg:g args h=some (v,h')) (hk:K v h'):Ok P T ov f args h K :=
 ⟨1,v,h',by simp [call,ho,hg],hk⟩

theorem W.loop {c:Code} {e:Env} {h:Heap} {Q:Ex->Env->Heap->Prop} (I:Env->Heap->Prop) (μ:Env->Heap->Nat) (h0:I e h)
 (round:∀ e h,I e h->W P T ov rd c e h λx e' h'=>match x with | .normal=>I e' h'/\μ e' h' < μ e h|x=>Q x e' h') (hm:∀ e h Q Q',(∀ x e h,Q x e h->Q' x e h)->W P T ov rd c e h Q->W P T ov rd c e h Q'):W P T ov rd (.loop c) e h Q:=by
 have key:∀ (n:Nat) (e:Env) (h:Heap),μ e h < n->I e h->ep (W P T ov rd c) Q n e h:=by
  intro n
  induction n with
  |zero=>intro e h hn;omega
  |succ n ih =>
   intro e h hn hI
   simp only [ep]
   refine hm _ _ _ _ ?_ (round e h hI)
   intro x e' h'
   cases x with
   |normal=>exact λhh=>ih e' h' (by omega) hh.1
   |exit i=>exact λhh=>hh
   |ret=>exact λhh=>hh
 exact ⟨μ e h+1,key _ e h (xl _) h0⟩

theorem cy.mono {o:Oper} {e:Env} {h:Heap} {K K':aG} (hk:∀ v h',K v h'->K' v h') (hw:cy P T ov o e h K):cy P T ov o e h K':=by
 unfold cy at hw ⊢
 split at hw
 .split at hw
  .exact hw.mono hk
  .exact ⟨hw.1,hw.2.mono hk⟩
  .exact hw.elim
 .split at hw
  .split at hw
   .exact hw.mono hk
   .exact hw.elim
  .exact hw.elim
 .unfold dx at hw ⊢
  split at hw
  .rename_i v h' h1;exact hk v h' hw
  .exact hw.elim
theorem dA.mono {ops:Array Oper}:∀ (l:List Oper) (e:Env) (h:Heap) (Q Q':Env->Heap->Prop),(∀ e h,Q e h->Q' e h)->dA P T ov ops l e h Q->dA P T ov ops l e h Q'
 | [],_,_,_,_,hq,hw=>hq _ _ hw
 |o::l,e,h,Q,Q',hq,hw=>by
  simp only [dA,sV] at hw ⊢
  split at hw
  .rename_i iE;rw [aE iE];exact cy.mono (λv h'=>dA.mono l _ _ _ _ hq) hw
  .rename_i iE;rw [az iE];exact dA.mono l _ _ _ _ hq hw
theorem cn.mono {ops:Array Oper}:∀ (l:List Oper) (ks:List Nat) (e:Env) (h:Heap) (Q Q':List Nat->Env->Heap->Prop),(∀ ks e h,Q ks e h->Q' ks e h)->cn P T ov ops l ks e h Q->cn P T ov ops l ks e h Q'
 | [],_,_,_,_,_,hq,hw=>hq _ _ _ hw
 |o::l,ks,e,h,Q,Q',hq,hw=>by
  simp only [cn,sV] at hw ⊢
  split at hw
  .rename_i iE;rw [aE iE];exact cy.mono (λv h'=>cn.mono l _ _ _ _ _ hq) hw
  .rename_i iE;rw [az iE];exact cn.mono l _ _ _ _ _ hq hw
theorem W.mono:∀ (c:Code) (e:Env) (h:Heap) (Q Q':Ex->Env->Heap->Prop),(∀ x e h,Q x e h->Q' x e h)->W P T ov rd c e h Q->W P T ov rd c e h Q':=by
 intro c
 induction c with
 |skip=>intro e h Q Q' hq hw;exact hq _ _ _ hw
 |region id ops d =>
  intro e h Q Q' hq hw
  cases d with
  |false=>exact dA.mono _ _ _ _ _ (hq _) hw
  |true=>exact cn.mono _ _ _ _ _ _ (λks e h hh=>⟨hh.1,hq _ _ _ hh.2⟩) hw
 |seq a b jU jV =>
  intro e h Q Q' hq hw
  simp only [W] at hw ⊢
  refine jU _ _ _ _ ?_ hw
  intro x e' h'
  cases x with
  |normal=>exact jV _ _ _ _ hq
  |exit id=>exact hq _ _ _
  |ret=>exact hq _ _ _
 |cond c a b jU jV =>
  intro e h Q Q' hq hw
  simp only [W,Ie] at hw ⊢
  split at hw
  .exact ⟨λht=>jU _ _ _ _ hq (hw.1 ht),λht=>jV _ _ _ _ hq (hw.2 ht)⟩
  .exact hw.elim
 |block id c ih =>
  intro e h Q Q' hq hw
  simp only [W] at hw ⊢
  refine ih _ _ _ _ ?_ hw
  intro x e' h'
  cases x with
  |normal=>exact hq _ _ _
  |exit i =>
   intro hh
   by_cases hi:i=id
   .simp only [aE hi] at hh ⊢;exact hq _ _ _ hh
   .simp only [az hi] at hh ⊢;exact hq _ _ _ hh
  |ret=>exact hq _ _ _
 |loop c ih =>
  intro e h Q Q' hq hw
  simp only [W] at hw ⊢
  obtain ⟨n,hw⟩:=hw
  exact ⟨n,ep.mono ih hq n e h hw⟩
 |exit id=>intro e h Q Q' hq hw;exact hq _ _ _ hw
 |ret=>intro e h Q Q' hq hw;exact hq _ _ _ hw
 |label l=>intro e h Q Q' hq hw;exact hq _ _ _ hw
 |rangeFunc g ps a b _ _ =>
  intro e h Q Q' hq hw
  simp only [W,C1] at hw ⊢
  split at hw
  .refine ⟨hw.1,hw.2.mono λv h2 hh=>?_⟩
   unfold Kg at hh ⊢
   split at hh
   .exact hq _ _ _ hh
   .exact hh.elim
  .exact hw.elim
 |scope c ih=>intro e h Q Q' hq hw;exact ih _ _ _ _ hq hw
 |goto l=>intro e h Q Q' hq hw;exact hw.elim
 |refuse s=>intro e h Q Q' hq hw;exact hw.elim

theorem W.OH {e:Env} {h:Heap} (I:Env->Heap->Prop) (μ:Env->Heap->Nat) (h0:I e h)
 (round:∀ e h,I e h->W P T ov rd c e h λx e' h'=>match x with | .normal=>I e' h'/\μ e' h' < μ e h|x=>Q x e' h'):W P T ov rd (.loop c) e h Q:=W.loop I μ h0 round (W.mono c)
structure Hid (p:Prop):Prop where
 out:p
theorem zxp (p:Prop):Hid p=p:=propext ⟨Hid.out,Hid.mk⟩
section
variable (P:Program) (T:bL) (ov:Ov) (rd:Option Nat)
def xo (ops:Array Oper) (l:List Oper) (d:Option Tmp) (Q:Env->Heap->Prop) (e:Env):aG:=λv h'=>Hid (dA P T ov ops l (put e d v) h' Q)
def TT (ops:Array Oper) (o:Oper) (l:List Oper) (e:Env) (h:Heap) (Q:Env->Heap->Prop) (b:Bool):Prop:=if b=true then cy P T ov o e h (xo P T ov ops l o.dst Q e) else dA P T ov ops l (put e o.dst undef) h Q
def EE (a b:Code) (e:Env) (h:Heap) (Q:Ex->Env->Heap->Prop) (v:ae):Prop:=Ie v (W P T ov rd a e h Q) (W P T ov rd b e h Q)
def Kh (b:Code) (Q:Ex->Env->Heap->Prop):Ex->Env->Heap->Prop
 | .normal,e',h'=>W P T ov rd b e' h' Q
 | .exit i,e',h'=>Q (.exit i) e' h'
 | .ret,e',h'=>Q .ret e' h'
def w8 (id:Nat) (Q:Ex->Env->Heap->Prop):Ex->Env->Heap->Prop
 | .normal,e',h'=>Q .normal e' h'
 | .exit i,e',h'=>if i=id then Q .normal e' h' else Q (.exit i) e' h'
 | .ret,e',h'=>Q .ret e' h'
def Vd (Q:Ex->Env->Heap->Prop):Env->Heap->Prop:=Q .normal
def zEW (ops:Array Oper) (Q:Ex->Env->Heap->Prop):List Nat->Env->Heap->Prop:=λks e' h'=>HV ops ks (nS ops.toList [])=true/\Q .normal e' h'
def eL (fn:Func) (K:aG):Ex->Env->Heap->Prop:=λx e' h'=>(x=.ret\/x=.normal)/\∃ v,mV T fn e' h'=some v/\K v h'
def AK (e:Env):List Operand->List ae
 | []=>[]
 |x::xs=>bz e x::AK e xs
def UR (o:Oper):Bool:=match o.op with
 | .call ⟨.value _,_,_⟩=>true
 | .call ⟨.invoke _ _,_,_⟩=>true
 |_=>false
def pw (args:List ae) (h:Heap) (K:aG) (v:ae):Prop:=match v with
 | .func (.func g) fi ca=>Ok P T ov g (fi.toList++args++ca.toList) h K
 | .func (.yield A) fi ca=>(fi.isEmpty && ca.isEmpty)=true/\AY P T ov (.yield A) args h K
 |_=>False
end

theorem Rz (e:Env):∀ xs:List Operand,xs.map (bz e)=AK e xs
 | []=>rfl
 |x::xs=>by rw [mZ,AK,Rz e xs]
theorem zwu (e:Env):AK e []=[]:=rfl
theorem zt7 (e:Env) (x:Operand) (xs:List Operand):AK e (x::xs)=bz e x::AK e xs:=rfl
theorem zyq (v:ae) (h:Heap) (K:aG):dx (some (v,h)) K=K v h:=rfl
theorem zzn (ops:Array Oper) (e:Env) (h:Heap) (Q:Env->Heap->Prop):dA P T ov ops [] e h Q=Q e h:=rfl
theorem zof (ops:Array Oper) (o:Oper) (l:List Oper) (e:Env) (h:Heap) (Q:Env->Heap->Prop):dA P T ov ops (o::l) e h Q=TT P T ov ops o l e h Q (nP ops o e):=by
 simp only [dA,sV,TT]
 split
 .exact propext ⟨cy.mono λ_ _ hw=>⟨hw⟩,cy.mono λ_ _ hw=>hw.out⟩
 .rfl
theorem zvM (ops:Array Oper) (o:Oper) (l:List Oper) (e:Env) (h:Heap) (Q:Env->Heap->Prop):TT P T ov ops o l e h Q true=cy P T ov o e h (xo P T ov ops l o.dst Q e):=rfl
theorem zsq (ops:Array Oper) (o:Oper) (l:List Oper) (e:Env) (h:Heap) (Q:Env->Heap->Prop):TT P T ov ops o l e h Q false=dA P T ov ops l (put e o.dst undef) h Q:=rfl
theorem zzk (ops:Array Oper) (l:List Oper) (d:Option Tmp) (Q:Env->Heap->Prop) (e:Env) (v:ae) (h:Heap):xo P T ov ops l d Q e v h=dA P T ov ops l (put e d v) h Q:=zxp _
theorem zzm {o:Oper} {e:Env} {h:Heap} (hc:UR o=false):cy P T ov o e h K=dx (jc P T zrP e o h) K:=by
 unfold cy
 split
 .rename_i aZ;simp [UR,aZ] at hc
 .rename_i aZ;simp [UR,aZ] at hc
 .rfl
theorem zzl (d:Option Tmp) (f:Operand) (args:List Operand) (iy:Array TypeId) (ty:TypeId) (pos:String) (af:Array Edge) (g:Option (Nat × Bool)) (e:Env) (h:Heap) (K:aG) :
 cy P T ov ⟨d,.call ⟨.value f,⟨args⟩,iy⟩,ty,pos,af,g⟩ e h K=pw P T ov (AK e args) h K (bz e f):=by
 rw [<- Rz];rfl
theorem sE (g:FuncId) (args:List ae) (h:Heap) (K:aG):pw P T ov args h K (.func (.func g) #[] #[])=Ok P T ov g args h K:=by
 simp [pw]
theorem uM (g:FuncId) (fi ca:Array ae) (args:List ae) (h:Heap) (K:aG):pw P T ov args h K (.func (.func g) fi ca)=Ok P T ov g (fi.toList++args++ca.toList) h K:=rfl
theorem zDF (e:Env) (h:Heap) (Q:Ex->Env->Heap->Prop):W P T ov rd .skip e h Q=Q .normal e h:=rfl
theorem zzo (id:Nat) (ops:List Oper) (e:Env) (h:Heap) (Q:Ex->Env->Heap->Prop):W P T ov rd (.region id ⟨ops⟩ false) e h Q=dA P T ov ⟨ops⟩ ops e h (Vd Q):=rfl
theorem zxN (Q:Ex->Env->Heap->Prop) (e:Env) (h:Heap):Vd Q e h=Q .normal e h:=rfl
theorem zDE (a b:Code) (e:Env) (h:Heap) (Q:Ex->Env->Heap->Prop):W P T ov rd (.seq a b) e h Q=W P T ov rd a e h (Kh P T ov rd b Q):=by
 simp only [W]
 congr 1
 funext x e' h'
 cases x <;> rfl
theorem zws (id:Nat) (c:Code) (e:Env) (h:Heap) (Q:Ex->Env->Heap->Prop):W P T ov rd (.block id c) e h Q=W P T ov rd c e h (w8 id Q):=by
 simp only [W]
 congr 1
 funext x e' h'
 cases x <;> rfl
theorem zDB (c:Operand) (a b:Code) (e:Env) (h:Heap) (Q:Ex->Env->Heap->Prop):W P T ov rd (.cond c a b) e h Q=EE P T ov rd a b e h Q (bz e c):=rfl
theorem zuq (a b:Code) (e:Env) (h:Heap) (Q:Ex->Env->Heap->Prop):EE P T ov rd a b e h Q (.bool true)=W P T ov rd a e h Q:=by simp [EE,Ie]
theorem zrg (a b:Code) (e:Env) (h:Heap) (Q:Ex->Env->Heap->Prop):EE P T ov rd a b e h Q (.bool false)=W P T ov rd b e h Q:=by simp [EE,Ie]
theorem zrh {a b:Code} {e:Env} {h:Heap} {t:Bool} (h1:t=true->W P T ov rd a e h Q) (h2:t=false->W P T ov rd b e h Q):EE P T ov rd a b e h Q (.bool t):=⟨h1,h2⟩
theorem zDC (id:Nat) (e:Env) (h:Heap) (Q:Ex->Env->Heap->Prop):W P T ov rd (.exit id) e h Q=Q (.exit id) e h:=rfl
theorem zEA (e:Env) (h:Heap) (Q:Ex->Env->Heap->Prop):W P T ov rd .ret e h Q=Q .ret e h:=rfl
theorem zBO (l:Nat) (e:Env) (h:Heap) (Q:Ex->Env->Heap->Prop):W P T ov rd (.label l) e h Q=Q .normal e h:=rfl
theorem zqs (b:Code) (Q:Ex->Env->Heap->Prop) (e:Env) (h:Heap):Kh P T ov rd b Q .normal e h=W P T ov rd b e h Q:=rfl
theorem zv2 (b:Code) (Q:Ex->Env->Heap->Prop) (i:Nat) (e:Env) (h:Heap):Kh P T ov rd b Q (.exit i) e h=Q (.exit i) e h:=rfl
theorem zy3 (b:Code) (Q:Ex->Env->Heap->Prop) (e:Env) (h:Heap):Kh P T ov rd b Q .ret e h=Q .ret e h:=rfl
theorem zmv (id:Nat) (Q:Ex->Env->Heap->Prop) (e:Env) (h:Heap):w8 id Q .normal e h=Q .normal e h:=rfl
theorem zq7 (id:Nat) (Q:Ex->Env->Heap->Prop) (e:Env) (h:Heap):w8 id Q (.exit id) e h=Q .normal e h:=by simp [w8]
theorem zkC (id i:Nat) (Q:Ex->Env->Heap->Prop) (e:Env) (h:Heap) (hi:(i == id)=false):w8 id Q (.exit i) e h=Q (.exit i) e h:=by
 have:i≠id:=by simpa using hi
 simp [w8,this]
theorem zuc (id:Nat) (Q:Ex->Env->Heap->Prop) (e:Env) (h:Heap):w8 id Q .ret e h=Q .ret e h:=rfl
theorem Ok.ZR {fn:Func} {h:Heap} (ho:ov f=none) (hf:T.fn f=some fn) (hc:fn.body=some c) (BF:T.MC f=false) {m:Nat} (hm:fn.ntmps - args.length=m)
 (hw:W P T ov none c (args++List.replicate m undef) h (eL T fn K)):Ok P T ov f args h K:=Ok.enter ho hf hc BF (by rw [hm];exact hw)
def Vj (I:Env->Heap->Prop) (μ:Env->Heap->Nat) (e:Env) (h:Heap) (Q:Ex->Env->Heap->Prop):Ex->Env->Heap->Prop
 | .normal,e',h'=>I e' h'/\μ e' h' < μ e h
 | .exit i,e',h'=>Q (.exit i) e' h'
 | .ret,e',h'=>Q .ret e' h'
theorem zuQ (I:Env->Heap->Prop) (μ:Env->Heap->Nat) (e:Env) (h:Heap) (Q:Ex->Env->Heap->Prop) (i:Nat) (e':Env) (h':Heap):Vj I μ e h Q (.exit i) e' h'=Q (.exit i) e' h':=rfl
theorem zxB (I:Env->Heap->Prop) (μ:Env->Heap->Nat) (e:Env) (h:Heap) (Q:Ex->Env->Heap->Prop) (e':Env) (h':Heap):Vj I μ e h Q .ret e' h'=Q .ret e' h':=rfl
theorem zpo {I:Env->Heap->Prop} {μ:Env->Heap->Nat} {e:Env} {h:Heap} {e':Env} {h':Heap} (h1:I e' h') (h2:μ e' h' < μ e h):Vj I μ e h Q .normal e' h':=⟨h1,h2⟩
theorem zDD {e:Env} {h:Heap} (I:Env->Heap->Prop) (μ:Env->Heap->Nat) (h0:I e h) (round:∀ e h,I e h->W P T ov rd c e h (Vj I μ e h Q)):W P T ov rd (.loop c) e h Q :=
 W.OH I μ h0 λe h hI=>W.mono c e h _ _ (λx e' h' hh=>by cases x <;> exact hh) (round e h hI)

section
variable (C:Fn->List ae->Heap->Option (ae × Heap)) (d:Option Tmp) (ty:TypeId) (pos:String) (af:Array Edge) (g:Option (Nat × Bool)) (e:Env) (h:Heap)
def zHb (c a b:ae) (h:Heap):Option (ae × Heap):=match c with | .bool t=>some (if t then a else b,h)|_=>none
def Z8 (v:ae) (h:Heap):Option (ae × Heap):=match v with
 | .pointer (some a)=>some (.pointer (some a),h)
 | .func (.func f) a b=>some (.func (.func f) a b,h)
 | .iface t a=>some (.iface t a,h)
 |_=>none
def aaI (v:ae) (i:Nat) (h:Heap):Option (ae × Heap):=match v with | .tuple vs=>(vs[i]?).map λr=>(r,h)|_=>none
end
theorem zzf (ops:Array Oper) (d:Option Tmp) (op:Op) (ty:TypeId) (pos:String) (af:Array Edge) (e:Env):nP ops ⟨d,op,ty,pos,af,none⟩ e=true:=rfl
def CT (v:ae) (b:Bool):Bool:=match v with | .bool c=>c == b|_=>false

theorem EC {op:BinOp} {t:TypeId} {k:IntKind} {a b:Int} {v:ae} (hv:sL op (.int k a) (.int k b)=some v):bY P T op t (.int k a) (.int k b)=some v:=by simp [bY,hv]
section
variable (t:TypeId) (k:IntKind) (a b:Int)
theorem zBY:bY P T .add t (.int k a) (.int k b)=some (.int k (k.wrap (a+b))):=EC (by simp [sL])
theorem zB9:bY P T .sub t (.int k a) (.int k b)=some (.int k (k.wrap (a - b))):=EC (by simp [sL])
theorem zB0:bY P T .eql t (.int k a) (.int k b)=some (.bool (a == b)):=EC (by simp [sL])
theorem zB5:bY P T .neq t (.int k a) (.int k b)=some (.bool (a != b)):=EC (by simp [sL])
theorem zB4:bY P T .lss t (.int k a) (.int k b)=some (.bool (a < b)):=EC (by simp [sL])
theorem zB3:bY P T .leq t (.int k a) (.int k b)=some (.bool (a<=b)):=EC (by simp [sL])
theorem zB2:bY P T .gtr t (.int k a) (.int k b)=some (.bool (a > b)):=EC (by simp [sL])
theorem zB1:bY P T .geq t (.int k a) (.int k b)=some (.bool (a >= b)):=EC (by simp [sL])
end

end
end Go.Am
