/- More fuel changes nothing. No condition. -/
import Derived.Test.YtjildadoepadeaaGreatDoorG1
set_option linter.unusedSimpArgs false
namespace Go.Am

def CLe (C C':Fn->List Vly->Heap->Option (Vly × Heap)):Prop:=∀ f args h r,C f args h=some r->C' f args h=some r
def DLe (D D':Array Oper->Env->Heap->Option (Env × Heap)):Prop:=∀ ops e h r,D ops e h=some r->D' ops e h=some r

section
variable {P:Program} {T:Tab} {C C':Fn->List Vly->Heap->Option (Vly × Heap)}

theorem zaJ (hC:CLe C C') {e:Env} {o:Oper} {h:Heap} {r:Vly × Heap} (hev:zal P T C e o h=some r):zal P T C' e o h=some r:=by
 obtain ⟨dst,op,ty,pos,after,guard⟩:=o
 cases op <;> simp only [zal] at hev ⊢ <;> try exact hev
 case call c =>
  obtain ⟨callee,args,ats⟩:=c
  cases callee with
  |value f =>
   simp only at hev ⊢
   split at hev
   .exact hC _ _ _ _ hev
   .split at hev
    .rename_i hc;rw [if_pos hc];exact hC _ _ _ _ hev
    .cases hev
   .cases hev
  |invoke rv m =>
   simp only at hev ⊢
   split at hev
   .simp only [Option.bind_eq_some_iff,Prod.exists] at hev ⊢
    obtain ⟨f,y,hm,hev⟩:=hev
    exact ⟨f,y,hm,hC _ _ _ _ hev⟩
   .cases hev
  |builtin b=>cases b <;> exact hev

theorem zbw (hC:CLe C C') {ops:Array Oper}:∀ (l:List Oper) (e:Env) (h:Heap) (r:Env × Heap),zaK P T C ops l e h=some r->zaK P T C' ops l e h=some r
 | [],_,_,_,hev=>hev
 |o::l,e,h,r,hev=>by
  simp only [zaK] at hev ⊢
  split at hev
  .rename_i hw
   rw [if_pos hw]
   split at hev
   .rename_i v h1 h2
    rw [zaJ hC h2]
    exact zbw hC l _ _ _ hev
   .cases hev
  .rename_i hw
   rw [if_neg hw]
   exact zbw hC l _ _ _ hev

theorem zbc (hC:CLe C C') {ops:Array Oper}:∀ (l:List Oper) (e:Env) (h:Heap) (r:List Nat × Env × Heap),zar P T C ops l e h=some r->zar P T C' ops l e h=some r
 | [],_,_,_,hev=>hev
 |o::l,e,h,r,hev=>by
  simp only [zar] at hev ⊢
  split at hev
  .rename_i hw
   rw [if_pos hw]
   split at hev
   .rename_i v h1 h2
    rw [zaJ hC h2]
    simp only [Option.map_eq_some_iff,Prod.exists] at hev ⊢
    obtain ⟨ks,x1,x2,hr,rfl⟩:=hev
    exact ⟨ks,x1,x2,zbc hC l _ _ _ hr,rfl⟩
   .cases hev
  .rename_i hw
   rw [if_neg hw]
   simp only [Option.map_eq_some_iff,Prod.exists] at hev ⊢
   obtain ⟨ks,x1,x2,hr,rfl⟩:=hev
   exact ⟨ks,x1,x2,zbc hC l _ _ _ hr,rfl⟩

theorem zak (hC:CLe C C'):DLe (zaj P T C) (zaj P T C'):=by
 intro ops e h r hev
 unfold zaj at hev ⊢
 split at hev
 .rename_i hr
  rw [zbc hC _ _ _ _ hr]
  exact hev
 .cases hev

theorem zdy {f f':Env->Heap->Option (Ex × Env × Heap)} (hf:∀ e h r,f e h=some r->f' e h=some r):∀ (n m:Nat) (e:Env) (h:Heap) (r:Ex × Env × Heap),n<=m->iter f n e h=some r->iter f' m e h=some r
 |0,_,_,_,_,_,hi=>by simp [iter] at hi
 |n+1,0,_,_,_,hle,_=>by omega
 |n+1,m+1,e,h,r,hle,hi=>by
  simp only [iter] at hi ⊢
  split at hi
  .rename_i e1 h1 h2
   rw [hf _ _ _ h2]
   exact zdy hf n m _ _ _ (by omega) hi
  .rename_i hne
   rw [hf _ _ _ hi]
   obtain ⟨x,e1,h1⟩:=r
   cases x with
   |normal=>exact (hne _ _ hi).elim
   |exit id=>rfl
   |ret=>rfl

theorem zai (hC:CLe C C') {D D':Array Oper->Env->Heap->Option (Env × Heap)} (hD:DLe D D') {n m:Nat} (hnm:n<=m) (rd:Option Nat):∀ (c:Code) (e:Env) (h:Heap) (r:Ex × Env × Heap),zab P T C D rd n c e h=some r->zab P T C' D' rd m c e h=some r:=by
 intro c
 induction c with
 |skip=>intro e h r hev;exact hev
 |region id ops d =>
  intro e h r hev
  simp only [zab,Option.map_eq_some_iff,Prod.exists] at hev ⊢
  obtain ⟨e1,h1,hr,rfl⟩:=hev
  refine ⟨e1,h1,?_,rfl⟩
  cases d with
  |true=>simp only [if_true] at hr ⊢;exact hD _ _ _ _ hr
  |false=>simp only [Bool.false_eq_true,if_false] at hr ⊢;exact zbw hC _ _ _ _ hr
 |seq a b iha ihb =>
  intro e h r hev
  simp only [zab] at hev ⊢
  split at hev
  .rename_i e1 h1 h2
   rw [iha _ _ _ h2]
   exact ihb _ _ _ hev
  .rename_i hne
   rw [iha _ _ _ hev]
   obtain ⟨x,e1,h1⟩:=r
   cases x with
   |normal=>exact (hne _ _ hev).elim
   |exit id=>rfl
   |ret=>rfl
 |cond c a b iha ihb =>
  intro e h r hev
  simp only [zab] at hev ⊢
  split at hev
  .exact iha _ _ _ hev
  .exact ihb _ _ _ hev
  .cases hev
 |block id c ih =>
  intro e h r hev
  simp only [zab] at hev ⊢
  split at hev
  .rename_i i e1 h1 h2
   rw [ih _ _ _ h2]
   exact hev
  .rename_i hne
   rw [ih _ _ _ hev]
   obtain ⟨x,e1,h1⟩:=r
   cases x with
   |normal=>rfl
   |exit id=>exact (hne _ _ _ hev).elim
   |ret=>rfl
 |loop c ih=>intro e h r hev;simp only [zab] at hev ⊢;exact zdy ih n m _ _ _ hnm hev
 |exit id=>intro e h r hev;exact hev
 |ret=>intro e h r hev;exact hev
 |label l=>intro e h r hev;exact hev
 |rangeFunc f ps a b _ _ =>
  intro e h r hev
  simp only [zab,zeM] at hev ⊢
  split at hev
  .split at hev
   .rename_i hc
    rw [if_pos hc]
    split at hev
    .rename_i hr;rw [hC _ _ _ _ hr];exact hev
    .cases hev
   .cases hev
  .cases hev
 |scope c ih=>intro e h r hev;exact ih _ _ _ hev
 |goto l=>intro e h r hev;simp [zab] at hev
 |refuse s=>intro e h r hev;simp [zab] at hev

theorem zgr {E E':Code->Env->Heap->Option (Ex × Env × Heap)} (hE:∀ c e h r,E c e h=some r->E' c e h=some r) {A:Nat} {args:List Vly} {h:Heap} {r:Vly × Heap} (hev:zc7 E A args h=some r):zc7 E' A args h=some r:=by
 unfold zc7 at hev ⊢
 split at hev
 .split at hev
  .rename_i hc
   simp only [if_pos hc]
   split at hev
   .rename_i h1
    rw [hE _ _ _ _ h1]
    simp only
    split at hev
    .split at hev
     .rename_i h2;rw [hE _ _ _ _ h2];exact hev
     .rename_i h2;rw [hE _ _ _ _ h2];exact hev
     .rename_i h2;rw [hE _ _ _ _ h2];exact hev
     .cases hev
    .cases hev
   .cases hev
  .cases hev
 .cases hev

theorem zbx {E E':Code->Env->Heap->Option (Ex × Env × Heap)} (hE:∀ c e h r,E c e h=some r->E' c e h=some r):∀ (pre:List Code) (e:Env) (h:Heap) (r:Env × Heap),zaX E pre e h=some r->zaX E' pre e h=some r
 | [],_,_,_,hev=>hev
 |c::cs,e,h,r,hev=>by
  simp only [zaX] at hev ⊢
  split at hev
  .rename_i hr
   rw [hE _ _ _ _ hr]
   exact zbx hE cs _ _ _ hev
  .cases hev
theorem zdz {E E':Code->Env->Heap->Option (Ex × Env × Heap)} (hE:∀ c e h r,E c e h=some r->E' c e h=some r) {fn:Func} {g:Vly} {e3:Env} {h3:Heap} {r:Vly × Heap} (hev:zbq T E fn g e3 h3=some r):zbq T E' fn g e3 h3=some r:=by
 unfold zbq at hev ⊢
 split at hev
 .simp only [Option.bind_eq_some_iff] at hev ⊢
  obtain ⟨fg,h1,cg,h2,hev⟩:=hev
  refine ⟨fg,h1,cg,h2,?_⟩
  split at hev
  .rename_i hn
   rw [if_pos hn]
   split at hev
   .rename_i hr
    rw [hE _ _ _ _ hr]
    exact hev
   .rename_i hr
    rw [hE _ _ _ _ hr]
    exact hev
   .cases hev
  .cases hev
 .cases hev
theorem zf6 {C C':Fn->List Vly->Heap->Option (Vly × Heap)} (hC:CLe C C') {E E':Code->Env->Heap->Option (Ex × Env × Heap)} (hE:∀ c e h r,E c e h=some r->E' c e h=some r) {fn:Func} {c:Code} {e:Env} {h:Heap} {r:Vly × Heap} (hev:zcD P T E C fn c e h=some r):zcD P T E' C' fn c e h=some r:=by
 unfold zcD at hev ⊢
 simp only [Option.bind_eq_some_iff,Prod.exists] at hev ⊢
 obtain ⟨pre,m,t,rest,hsp,hev⟩:=hev
 refine ⟨pre,m,t,rest,hsp,?_⟩
 split at hev
 .rename_i hn
  rw [if_pos hn]
  simp only [Option.bind_eq_some_iff,Prod.exists] at hev ⊢
  obtain ⟨e1,h1,hp,v1,h2,ho,hev⟩:=hev
  refine ⟨e1,h1,zbx hE _ _ _ _ hp,v1,h2,zaJ hC ho,?_⟩
  split at hev
  .rename_i hr
   rw [hE _ _ _ _ hr]
   exact zdz hE hev
  .rename_i hr
   rw [hE _ _ _ _ hr]
   exact zdz hE hev
  .cases hev
 .cases hev
theorem zah {ov:Ov}:∀ (n m:Nat),n<=m->CLe (call P T ov n) (call P T ov m)
 |0,_,_=>by intro f args h r hev;simp [call] at hev
 |n+1,0,hle=>by omega
 |n+1,m+1,hle=>by
  intro f args h r hev
  have ih:=zah (ov:=ov) n m (by omega)
  cases f with
  |func f =>
   simp only [call] at hev ⊢
   split at hev
   .exact hev
   .simp only [Option.bind_eq_some_iff] at hev ⊢
    obtain ⟨fn,hfn,c,hc,hev⟩:=hev
    refine ⟨fn,hfn,c,hc,?_⟩
    split at hev
    .rename_i hdf
     rw [if_pos hdf]
     exact zf6 ih (λc e h r hr=>zai ih (zak ih) (by omega) none c e h r hr) hev
    rename_i hdf
    rw [if_neg hdf]
    split at hev
    .rename_i hr
     rw [zai ih (zak ih) (by omega) none _ _ _ _ hr]
     exact hev
    .rename_i hr
     rw [zai ih (zak ih) (by omega) none _ _ _ _ hr]
     exact hev
    .cases hev
  |yield A =>
   simp only [call] at hev ⊢
   exact zgr (λc e h r hr=>zai ih (zak ih) (by omega) (some A) c e h r hr) hev
  |_=>simp [call] at hev
end
end Go.Am
namespace Go.Am

structure Ext (h h':Heap):Prop where
 size:h.size<=h'.size
 get:∀ A,A < h.size->h'.get A=h.get A
 low:min h.low h.size<=h'.low

theorem Ext.refl (h:Heap):Ext h h:=⟨Nat.le_refl _,λ_ _=>rfl,Nat.min_le_left _ _⟩
theorem Ext.trans {a b c:Heap} (h:Ext a b) (k:Ext b c):Ext a c :=
 ⟨Nat.le_trans h.size k.size,λA hA=>(k.get A (Nat.lt_of_lt_of_le hA h.size)).trans (h.get A hA),by have:=h.low;have:=k.low;have:=h.size;omega⟩
theorem Ext.push (h:Heap) (b:Blk):Ext h (h.push b):=⟨Nat.le_succ _,λA hA=>by rw [Heap.get_push,if_neg (by omega)],by rw [Heap.low_push];omega⟩
theorem Ext.set {h h':Heap} (e:Ext h h') {A:Nat} (hA:h.size<=A) (hA':A < h'.size) (b:Blk):Ext h (h'.set A b) :=
 ⟨e.size,λB hB=>by rw [Heap.get_set _ _ _ _ hA',if_neg (by omega)];exact e.get B hB,by rw [Heap.low_set];have:=e.low;omega⟩

section
variable (P:Program) (T:Tab) (ov:Ov)

def OkF (f:Fn) (args:List Vly) (h:Heap) (K:KTy):Prop:=∃ n v h',call P T ov n f args h=some (v,h')/\K v h'
def Ok (f:FuncId) (args:List Vly) (h:Heap) (K:KTy):Prop:=OkF P T ov (.func f) args h K

def optE (r:Option (Vly × Heap)) (K:KTy):Prop:=match r with
 |some (v,h')=>K v h'
 |none=>False
def zgM (v:Vly) (A B:Prop):Prop:=match v with
 | .bool t=>(t=true->A)/\(t=false->B)
 |_=>False
def zex (b:Bool) (A B:Prop):Prop:=if b=true then A else B

def zhl:Fn->List Vly->Heap->Option (Vly × Heap):=λ_ _ _=>none

def WOp (o:Oper) (e:Env) (h:Heap) (K:KTy):Prop :=
 match o.op with
 | .call ⟨.value f,args,_⟩=>match zaa e f with
  | .func (.func g) fi ca=>Ok P T ov g (fi.toList++args.toList.map (zaa e)++ca.toList) h K
  | .func (.yield A) fi ca=>(fi.isEmpty && ca.isEmpty)=true/\OkF P T ov (.yield A) (args.toList.map (zaa e)) h K
  |_=>False
 | .call ⟨.invoke r name,args,_⟩=>match zaa e r with
  | .iface t x=>(match zcZ T t x name h with
   |some (f,y)=>Ok P T ov f (y::args.toList.map (zaa e)) h K
   |none=>False)
  |_=>False
 |_=>optE (zal P T zhl e o h) K

def WOps (ops:Array Oper):List Oper->Env->Heap->(Env->Heap->Prop)->Prop
 | [],e,h,Q=>Q e h
 |o::l,e,h,Q=>zex (zaL ops o e) (WOp P T ov o e h λv h'=>WOps ops l (put e o.dst v) h' Q) (WOps ops l (put e o.dst undef) h Q)

def WOpsK (ops:Array Oper):List Oper->List Nat->Env->Heap->(List Nat->Env->Heap->Prop)->Prop
 | [],ks,e,h,Q=>Q ks e h
 |o::l,ks,e,h,Q =>
  zex (zaL ops o e) (WOp P T ov o e { h with low:=h.size } λv h' =>
   WOpsK ops l (ks++[zb0 T o e h h']) (put e o.dst v) { h' with low:=min h.low h'.low } Q)
   (WOpsK ops l (ks++[0]) (put e o.dst undef) h Q)

def WIter (W:Env->Heap->(Ex->Env->Heap->Prop)->Prop) (Q:Ex->Env->Heap->Prop):Nat->Env->Heap->Prop
 |0,_,_=>False
 |n+1,e,h=>W e h fun
  | .normal,e',h'=>WIter W Q n e' h'
  |x,e',h'=>Q x e' h'

def zgL (r:Option (Ex × Env × Heap)) (Q:Ex->Env->Heap->Prop):Prop:=match r with
 |some (x,e,h)=>Q x e h
 |none=>False
def zeN (rd:Option Nat) (g:Vly) (ps:List Tmp) (assign body:Code) (e:Env) (h:Heap) (Q:Ex->Env->Heap->Prop):Prop :=
 match g with
 | .func (.func f) fi ca=>(zdg rd h && ze3 T f)=true /\
  Ok P T ov f (fi.toList++[.func (.yield h.size) #[] #[]]++ca.toList) (h.push (.loop e ps assign body .ready none)) λ_ h2=>zgL (za1 h.size e h2) Q
 |_=>False
def W (rd:Option Nat):Code->Env->Heap->(Ex->Env->Heap->Prop)->Prop
 | .skip,e,h,Q=>Q .normal e h
 | .region _ ops false,e,h,Q=>WOps P T ov ops ops.toList e h (Q .normal)
 | .region _ ops true,e,h,Q=>WOpsK P T ov ops ops.toList [] e h λks e' h'=>zfo ops ks (zcl ops.toList [])=true/\Q .normal e' h'
 | .seq a b,e,h,Q=>W rd a e h fun
  | .normal,e',h'=>W rd b e' h' Q
  |x,e',h'=>Q x e' h'
 | .cond c a b,e,h,Q=>zgM (zaa e c) (W rd a e h Q) (W rd b e h Q)
 | .block id c,e,h,Q=>W rd c e h fun
  | .exit i,e',h'=>if i=id then Q .normal e' h' else Q (.exit i) e' h'
  |x,e',h'=>Q x e' h'
 | .loop c,e,h,Q=>∃ n,WIter (W rd c) Q n e h
 | .exit id,e,h,Q=>Q (.exit id) e h
 | .ret,e,h,Q=>Q .ret e h
 | .label _,e,h,Q=>Q .normal e h
 | .scope c,e,h,Q=>W rd c e h Q
 | .rangeFunc g ps assign body,e,h,Q=>zeN P T ov rd (zaa e g) ps.toList assign body e h Q
 |_,_,_,_=>False
end

section
variable {P:Program} {T:Tab} {ov:Ov} {rd:Option Nat}

theorem OkF.mono {f:Fn} {args:List Vly} {h:Heap} {K K':KTy} (hk:OkF P T ov f args h K) (hm:∀ v h',K v h'->K' v h'):OkF P T ov f args h K':=by
 obtain ⟨n,v,h',h1,h2⟩:=hk
 exact ⟨n,v,h',h1,hm v h' h2⟩
theorem Ok.mono {f:FuncId} {args:List Vly} {h:Heap} {K K':KTy} (hk:Ok P T ov f args h K) (hm:∀ v h',K v h'->K' v h'):Ok P T ov f args h K':=by
 obtain ⟨n,v,h',h1,h2⟩:=hk
 exact ⟨n,v,h',h1,hm v h' h2⟩

theorem zgY (C:Fn->List Vly->Heap->Option (Vly × Heap)):CLe zhl C:=by intro f args h r hr;cases hr

theorem WOp.sound {o:Oper} {e:Env} {h:Heap} {K:KTy} (hw:WOp P T ov o e h K):∃ n v h',zal P T (call P T ov n) e o h=some (v,h')/\K v h':=by
 unfold WOp at hw
 split at hw
 .rename_i f args ats hop
  split at hw
  .rename_i g fi ca hf
   obtain ⟨n,v,h',h1,h2⟩:=hw
   refine ⟨n,v,h',?_,h2⟩
   unfold zal
   simp only [hop,hf]
   exact h1
  .rename_i A fi ca hf
   obtain ⟨hc,n,v,h',h1,h2⟩:=hw
   refine ⟨n,v,h',?_,h2⟩
   unfold zal
   simp only [hop,hf]
   rw [if_pos hc]
   exact h1
  .exact hw.elim
 .rename_i r name args ats hop
  split at hw
  .rename_i t x hr
   split at hw
   .rename_i f y hm
    obtain ⟨n,v,h',h1,h2⟩:=hw
    refine ⟨n,v,h',?_,h2⟩
    unfold zal
    simp only [hop,hr,hm]
    exact h1
   .exact hw.elim
  .exact hw.elim
 .unfold optE at hw
  split at hw
  .rename_i v h' h1
   exact ⟨0,v,h',zaJ (zgY _) h1,hw⟩
  .exact hw.elim

theorem WOps.sound {ops:Array Oper}:∀ (l:List Oper) (e:Env) (h:Heap) (Q:Env->Heap->Prop),WOps P T ov ops l e h Q->∃ n e' h',zaK P T (call P T ov n) ops l e h=some (e',h')/\Q e' h'
 | [],e,h,Q,hw=>⟨0,e,h,rfl,hw⟩
 |o::l,e,h,Q,hw=>by
  simp only [WOps,zex] at hw
  split at hw
  .rename_i hwt
   obtain ⟨n,v,h1,h2,h3⟩:=WOp.sound hw
   obtain ⟨m,e',h',h4,h5⟩:=WOps.sound l _ _ _ h3
   refine ⟨max n m,e',h',?_,h5⟩
   simp only [zaK,hwt,if_true]
   rw [zaJ (zah n (max n m) (Nat.le_max_left _ _)) h2]
   exact zbw (zah m (max n m) (Nat.le_max_right _ _)) _ _ _ _ h4
  .rename_i hwt
   obtain ⟨m,e',h',h4,h5⟩:=WOps.sound l _ _ _ hw
   refine ⟨m,e',h',?_,h5⟩
   simp only [zaK]
   rw [if_neg hwt]
   exact h4

theorem WOpsK.sound {ops:Array Oper}:∀ (l:List Oper) (ks:List Nat) (e:Env) (h:Heap) (Q:List Nat->Env->Heap->Prop),WOpsK P T ov ops l ks e h Q ->
 ∃ n ks' e' h',zar P T (call P T ov n) ops l e h=some (ks',e',h')/\Q (ks++ks') e' h'
 | [],ks,e,h,Q,hw=>⟨0,[],e,h,rfl,by rw [List.append_nil];exact hw⟩
 |o::l,ks,e,h,Q,hw=>by
  simp only [WOpsK,zex] at hw
  split at hw
  .rename_i hwt
   obtain ⟨n,v,h1,h2,h3⟩:=WOp.sound hw
   obtain ⟨m,ks',e',h',h4,h5⟩:=WOpsK.sound l _ _ _ _ h3
   refine ⟨max n m,_::ks',e',h',?_,by rw [List.append_assoc] at h5;exact h5⟩
   simp only [zar,hwt,if_true]
   rw [zaJ (zah n (max n m) (Nat.le_max_left _ _)) h2]
   simp only [zbc (zah m (max n m) (Nat.le_max_right _ _)) _ _ _ _ h4,Option.map_some]
  .rename_i hwt
   obtain ⟨m,ks',e',h',h4,h5⟩:=WOpsK.sound l _ _ _ _ hw
   refine ⟨m,0::ks',e',h',?_,by rw [List.append_assoc] at h5;exact h5⟩
   simp only [zar]
   rw [if_neg hwt,h4]
   rfl

theorem WIter.mono {W:Env->Heap->(Ex->Env->Heap->Prop)->Prop} (hW:∀ e h Q Q',(∀ x e h,Q x e h->Q' x e h)->W e h Q->W e h Q') {Q Q':Ex->Env->Heap->Prop} (hq:∀ x e h,Q x e h->Q' x e h):∀ (n:Nat) (e:Env) (h:Heap),WIter W Q n e h->WIter W Q' n e h
 |0,_,_,hw=>hw
 |n+1,e,h,hw=>by
  simp only [WIter] at hw ⊢
  refine hW _ _ _ _ ?_ hw
  intro x e' h'
  cases x with
  |normal=>exact WIter.mono hW hq n e' h'
  |exit id=>exact hq _ _ _
  |ret=>exact hq _ _ _

theorem W.sound:∀ (c:Code) (e:Env) (h:Heap) (Q:Ex->Env->Heap->Prop),W P T ov rd c e h Q->∃ n x e' h',zab P T (call P T ov n) (zaj P T (call P T ov n)) rd n c e h=some (x,e',h')/\Q x e' h':=by
 intro c
 have lift:∀ {n m:Nat} (c:Code) (e:Env) (h:Heap) (r:Ex × Env × Heap),n<=m->zab P T (call P T ov n) (zaj P T (call P T ov n)) rd n c e h=some r->zab P T (call P T ov m) (zaj P T (call P T ov m)) rd m c e h=some r :=
  λc e h r hnm=>zai (zah _ _ hnm) (zak (zah _ _ hnm)) hnm rd c e h r
 induction c with
 |skip=>intro e h Q hw;exact ⟨0,.normal,e,h,rfl,hw⟩
 |region id ops d =>
  intro e h Q hw
  cases d with
  |false =>
   simp only [W] at hw
   obtain ⟨n,e',h',h1,h2⟩:=WOps.sound _ _ _ _ hw
   exact ⟨n,.normal,e',h',by simp [zab,h1],h2⟩
  |true =>
   simp only [W] at hw
   obtain ⟨n,ks,e',h',h1,h2,h3⟩:=WOpsK.sound _ _ _ _ _ hw
   rw [List.nil_append] at h2
   refine ⟨n,.normal,e',h',?_,h3⟩
   simp [zab,zaj,h1,h2]
 |seq a b iha ihb =>
  intro e h Q hw
  simp only [W] at hw
  obtain ⟨n,x,e1,h1,h2,h3⟩:=iha _ _ _ hw
  cases x with
  |normal =>
   obtain ⟨m,x,e2,h4,h5,h6⟩:=ihb _ _ _ h3
   refine ⟨max n m,x,e2,h4,?_,h6⟩
   simp only [zab]
   rw [lift a e h _ (Nat.le_max_left n m) h2]
   exact lift b _ _ _ (Nat.le_max_right n m) h5
  |exit id=>exact ⟨n,.exit id,e1,h1,by simp only [zab];rw [h2],h3⟩
  |ret=>exact ⟨n,.ret,e1,h1,by simp only [zab];rw [h2],h3⟩
 |cond c a b iha ihb =>
  intro e h Q hw
  simp only [W,zgM] at hw
  split at hw
  .rename_i t ht
   cases t with
   |true =>
    obtain ⟨n,x,e1,h1,h2,h3⟩:=iha _ _ _ (hw.1 rfl)
    exact ⟨n,x,e1,h1,by simp only [zab,ht];exact h2,h3⟩
   |false =>
    obtain ⟨n,x,e1,h1,h2,h3⟩:=ihb _ _ _ (hw.2 rfl)
    exact ⟨n,x,e1,h1,by simp only [zab,ht];exact h2,h3⟩
  .exact hw.elim
 |block id c ih =>
  intro e h Q hw
  simp only [W] at hw
  obtain ⟨n,x,e1,h1,h2,h3⟩:=ih _ _ _ hw
  cases x with
  |normal=>exact ⟨n,.normal,e1,h1,by simp only [zab];rw [h2],h3⟩
  |exit i =>
   by_cases hi:i=id
   .exact ⟨n,.normal,e1,h1,by simp only [zab,h2,if_pos hi],by simpa only [if_pos hi] using h3⟩
   .exact ⟨n,.exit i,e1,h1,by simp only [zab,h2,if_neg hi],by simpa only [if_neg hi] using h3⟩
  |ret=>exact ⟨n,.ret,e1,h1,by simp only [zab];rw [h2],h3⟩
 |loop c ih =>
  intro e h Q hw
  simp only [W] at hw
  obtain ⟨k,hw⟩:=hw
  have key:∀ (k:Nat) (e:Env) (h:Heap),WIter (W P T ov rd c) Q k e h->∃ n x e' h',iter (zab P T (call P T ov n) (zaj P T (call P T ov n)) rd n c) n e h=some (x,e',h')/\Q x e' h':=by
   intro k
   induction k with
   |zero=>intro e h hw;exact hw.elim
   |succ k ihk =>
    intro e h hw
    simp only [WIter] at hw
    obtain ⟨n,x,e1,h1,h2,h3⟩:=ih _ _ _ hw
    cases x with
    |normal =>
     obtain ⟨m,x,e2,h4,h5,h6⟩:=ihk _ _ h3
     refine ⟨max n m+1,x,e2,h4,?_,h6⟩
     simp only [iter]
     rw [lift c e h _ (show n<=max n m+1 by omega) h2]
     exact zdy (λe h r hr=>lift c e h r (show m<=max n m+1 by omega) hr) m (max n m) _ _ _ (Nat.le_max_right _ _) h5
    |exit id=>exact ⟨n+1,.exit id,e1,h1,by simp only [iter];rw [lift c e h _ (Nat.le_succ n) h2],h3⟩
    |ret=>exact ⟨n+1,.ret,e1,h1,by simp only [iter];rw [lift c e h _ (Nat.le_succ n) h2],h3⟩
  obtain ⟨n,x,e',h',h1,h2⟩:=key k e h hw
  exact ⟨n,x,e',h',by simp only [zab];exact h1,h2⟩
 |exit id=>intro e h Q hw;exact ⟨0,.exit id,e,h,rfl,hw⟩
 |ret=>intro e h Q hw;exact ⟨0,.ret,e,h,rfl,hw⟩
 |label l=>intro e h Q hw;exact ⟨0,.normal,e,h,rfl,hw⟩
 |rangeFunc g ps a b _ _ =>
  intro e h Q hw
  simp only [W,zeN] at hw
  split at hw
  .rename_i f fi ca hg
   obtain ⟨hc,n,v,h1,h2,h3⟩:=hw
   unfold zgL at h3
   split at h3
   .rename_i x e' h' h4
    refine ⟨n,x,e',h',?_,h3⟩
    simp only [zab,zeM,hg]
    rw [if_pos hc,h2]
    exact h4
   .exact h3.elim
  .exact hw.elim
 |scope c ih=>intro e h Q hw;exact ih _ _ _ hw
 |goto l=>intro e h Q hw;exact hw.elim
 |refuse s=>intro e h Q hw;exact hw.elim

theorem Ok.enter {f:FuncId} {fn:Func} {c:Code} {args:List Vly} {h:Heap} {K:KTy} (ho:ov f=none) (hf:T.fn f=some fn) (hc:fn.body=some c) (hdf:T.dfr f=false)
 (hw:W P T ov none c (args++List.replicate (fn.ntmps - args.length) undef) h λx e' h'=>(x=.ret\/x=.normal)/\∃ v,zao T fn e' h'=some v/\K v h'):Ok P T ov f args h K:=by
 obtain ⟨n,x,e',h',h1,hx,v,h2,h3⟩:=W.sound _ _ _ _ hw
 refine ⟨n+1,v,h',?_,h3⟩
 simp only [call,ho,hf,hc,Option.bind_some,h1,hdf,Bool.false_eq_true,if_false]
 rcases hx with rfl|rfl <;> simp [h2]

def WPre (P:Program) (T:Tab) (ov:Ov):List Code->Env->Heap->(Env->Heap->Prop)->Prop
 | [],e,h,Q=>Q e h
 |c::cs,e,h,Q=>W P T ov none c e h λx e' h'=>x=.normal/\WPre P T ov cs e' h' Q
theorem WPre.sound:∀ (pre:List Code) (e:Env) (h:Heap) (Q:Env->Heap->Prop),WPre P T ov pre e h Q->∃ n e' h',zaX (zab P T (call P T ov n) (zaj P T (call P T ov n)) none n) pre e h=some (e',h')/\Q e' h'
 | [],e,h,Q,hw=>⟨0,e,h,rfl,hw⟩
 |c::cs,e,h,Q,hw=>by
  simp only [WPre] at hw
  obtain ⟨n,x,e1,h1,r1,rfl,hw⟩:=W.sound _ _ _ _ hw
  obtain ⟨k,e2,h2,r2,hq⟩:=WPre.sound cs e1 h1 Q hw
  refine ⟨max n k,e2,h2,?_,hq⟩
  simp only [zaX]
  rw [zai (zah _ _ (Nat.le_max_left n k)) (zak (zah _ _ (Nat.le_max_left n k))) (Nat.le_max_left n k) none _ _ _ _ r1]
  exact zbx (λc e h r=>zai (zah _ _ (Nat.le_max_right n k)) (zak (zah _ _ (Nat.le_max_right n k))) (Nat.le_max_right n k) none c e h r) _ _ _ _ r2
theorem Ok.enterD {f:FuncId} {fn:Func} {c:Code} {args:List Vly} {h:Heap} {K:KTy} {pre:List Code} {m:Oper} {t:Tmp} {rest:Code} (ho:ov f=none) (hf:T.fn f=some fn) (hc:fn.body=some c) (hdf:T.dfr f=true)
 (hsp:zce c=some (pre,m,t,rest)) (hnr:(pre.all zag && zag rest)=true)
 (hw:WPre P T ov pre (args++List.replicate (fn.ntmps - args.length) undef) h λe1 h1=>WOp P T ov m e1 h1 λv h2=>W P T ov none rest (put e1 m.dst v) h2 λx e3 h3=>(x=.ret\/x=.normal) /\
  ∃ g fi ca fg cg,(put e1 m.dst v).get t=.func (.func g) fi ca/\T.fn g=some fg/\fg.body=some cg/\zag cg=true /\
    W P T ov none cg ((fi.toList++ca.toList)++List.replicate (fg.ntmps - (fi.toList++ca.toList).length) undef) h3 λy e4 h4=>(y=.ret\/y=.normal)/\∃ vg v,zao T fg e4 h4=some vg/\zao T fn e3 h4=some v/\K v h4):Ok P T ov f args h K:=by
 obtain ⟨n1,e1,h1,r1,hw⟩:=WPre.sound _ _ _ _ hw
 obtain ⟨n2,v,h2,r2,hw⟩:=WOp.sound hw
 obtain ⟨n3,x,e3,h3,r3,hx,g,fi,ca,fg,cg,q1,q2,q3,q4,hw⟩:=W.sound _ _ _ _ hw
 obtain ⟨n4,y,e4,h4,r4,hy,vg,v5,r5,r6,hk⟩:=W.sound _ _ _ _ hw
 have hm:∃ n,n1<=n/\n2<=n/\n3<=n/\n4<=n:=⟨n1+n2+n3+n4,by omega,by omega,by omega,by omega⟩
 obtain ⟨n,l1,l2,l3,l4⟩:=hm
 have lift:∀ {k:Nat} (c:Code) (e:Env) (h:Heap) (r:Ex × Env × Heap),k<=n->zab P T (call P T ov k) (zaj P T (call P T ov k)) none k c e h=some r->zab P T (call P T ov n) (zaj P T (call P T ov n)) none n c e h=some r :=
  λc e h r hkn=>zai (zah _ _ hkn) (zak (zah _ _ hkn)) hkn none c e h r
 refine ⟨n+1,v5,h4,?_,hk⟩
 have r1':=zbx (λc e h r=>lift c e h r l1) _ _ _ _ r1
 have r2':=zaJ (zah _ _ l2) r2
 have r3':=lift _ _ _ _ l3 r3
 have r4':=lift _ _ _ _ l4 r4
 have hlv:zbq T (zab P T (call P T ov n) (zaj P T (call P T ov n)) none n) fn ((put e1 m.dst v).get t) e3 h3=some (v5,h4):=by
  unfold zbq
  simp only [q1,q2,q3,q4,Option.bind_some,if_true,r4']
  rcases hy with rfl|rfl <;> simp [r5,r6]
 simp only [call,ho,hf,hc,Option.bind_some,hdf,if_true,zcD,hsp,hnr,r1',r2',r3']
 rcases hx with rfl|rfl <;> exact hlv

theorem OkF.round {A:Nat} {env:List Vly} {ps:List Tmp} {assign body:Code} {st:LoopState} {pend:Option Code} {args:List Vly} {h:Heap} {K:KTy} (hg:h.get A=some (.loop env ps assign body st pend)) (hl:args.length=ps.length)
 (hw:W P T ov (some A) assign (setAll env ps args) h λx e1 h1=>x=.normal/\∃ env1 ps1 as1 bd1 pend1,h1.get A=some (.loop env1 ps1 as1 bd1 .ready pend1) /\
  W P T ov (some A) body e1 (h1.set A (.loop env1 ps1 as1 bd1 .busy pend1)) λx _ h2=>optE (zaF A (match x with | .normal=>none | .ret=>some .ret | .exit id=>some (.exit id)) h2) K):OkF P T ov (.yield A) args h K:=by
 obtain ⟨n,x,e1,h1,r1,rfl,env1,ps1,as1,bd1,pend1,r2,hw⟩:=W.sound _ _ _ _ hw
 obtain ⟨m,x,e2,h2,r3,hk⟩:=W.sound _ _ _ _ hw
 unfold optE at hk
 split at hk
 .rename_i v h' r4
  refine ⟨max n m+1,v,h',?_,hk⟩
  have l1:=zai (P:=P) (T:=T) (zah (ov:=ov) n (max n m) (Nat.le_max_left _ _)) (zak (zah n (max n m) (Nat.le_max_left _ _))) (Nat.le_max_left n m) (some A) _ _ _ _ r1
  have l2:=zai (P:=P) (T:=T) (zah (ov:=ov) m (max n m) (Nat.le_max_right _ _)) (zak (zah m (max n m) (Nat.le_max_right _ _))) (Nat.le_max_right n m) (some A) _ _ _ _ r3
  simp only [call,zc7,hg,hl,if_true,l1,r2,l2]
  cases x <;> exact r4
 .exact hk.elim

theorem Ok.over {f:FuncId} {g:List Vly->Heap->Option (Vly × Heap)} {args:List Vly} {h h':Heap} {v:Vly} {K:KTy} (ho:ov f=some g) (hg:g args h=some (v,h')) (hk:K v h'):Ok P T ov f args h K :=
 ⟨1,v,h',by simp [call,ho,hg],hk⟩

theorem W.loop {c:Code} {e:Env} {h:Heap} {Q:Ex->Env->Heap->Prop} (I:Env->Heap->Prop) (μ:Env->Heap->Nat) (h0:I e h)
 (round:∀ e h,I e h->W P T ov rd c e h λx e' h'=>match x with | .normal=>I e' h'/\μ e' h' < μ e h|x=>Q x e' h') (hm:∀ e h Q Q',(∀ x e h,Q x e h->Q' x e h)->W P T ov rd c e h Q->W P T ov rd c e h Q'):W P T ov rd (.loop c) e h Q:=by
 have key:∀ (n:Nat) (e:Env) (h:Heap),μ e h < n->I e h->WIter (W P T ov rd c) Q n e h:=by
  intro n
  induction n with
  |zero=>intro e h hn;omega
  |succ n ih =>
   intro e h hn hI
   simp only [WIter]
   refine hm _ _ _ _ ?_ (round e h hI)
   intro x e' h'
   cases x with
   |normal=>exact λhh=>ih e' h' (by omega) hh.1
   |exit i=>exact λhh=>hh
   |ret=>exact λhh=>hh
 exact ⟨μ e h+1,key _ e h (Nat.lt_succ_self _) h0⟩

theorem WOp.mono {o:Oper} {e:Env} {h:Heap} {K K':KTy} (hk:∀ v h',K v h'->K' v h') (hw:WOp P T ov o e h K):WOp P T ov o e h K':=by
 unfold WOp at hw ⊢
 split at hw
 .split at hw
  .exact hw.mono hk
  .exact ⟨hw.1,hw.2.mono hk⟩
  .exact hw.elim
 .split at hw
  .split at hw
   .exact hw.mono hk
   .exact hw.elim
  .exact hw.elim
 .unfold optE at hw ⊢
  split at hw
  .rename_i v h' h1;exact hk v h' hw
  .exact hw.elim
theorem WOps.mono {ops:Array Oper}:∀ (l:List Oper) (e:Env) (h:Heap) (Q Q':Env->Heap->Prop),(∀ e h,Q e h->Q' e h)->WOps P T ov ops l e h Q->WOps P T ov ops l e h Q'
 | [],_,_,_,_,hq,hw=>hq _ _ hw
 |o::l,e,h,Q,Q',hq,hw=>by
  simp only [WOps,zex] at hw ⊢
  split at hw
  .rename_i hwt;rw [if_pos hwt];exact WOp.mono (λv h'=>WOps.mono l _ _ _ _ hq) hw
  .rename_i hwt;rw [if_neg hwt];exact WOps.mono l _ _ _ _ hq hw
theorem WOpsK.mono {ops:Array Oper}:∀ (l:List Oper) (ks:List Nat) (e:Env) (h:Heap) (Q Q':List Nat->Env->Heap->Prop),(∀ ks e h,Q ks e h->Q' ks e h)->WOpsK P T ov ops l ks e h Q->WOpsK P T ov ops l ks e h Q'
 | [],_,_,_,_,_,hq,hw=>hq _ _ _ hw
 |o::l,ks,e,h,Q,Q',hq,hw=>by
  simp only [WOpsK,zex] at hw ⊢
  split at hw
  .rename_i hwt;rw [if_pos hwt];exact WOp.mono (λv h'=>WOpsK.mono l _ _ _ _ _ hq) hw
  .rename_i hwt;rw [if_neg hwt];exact WOpsK.mono l _ _ _ _ _ hq hw
theorem W.mono:∀ (c:Code) (e:Env) (h:Heap) (Q Q':Ex->Env->Heap->Prop),(∀ x e h,Q x e h->Q' x e h)->W P T ov rd c e h Q->W P T ov rd c e h Q':=by
 intro c
 induction c with
 |skip=>intro e h Q Q' hq hw;exact hq _ _ _ hw
 |region id ops d =>
  intro e h Q Q' hq hw
  cases d with
  |false=>exact WOps.mono _ _ _ _ _ (hq _) hw
  |true=>exact WOpsK.mono _ _ _ _ _ _ (λks e h hh=>⟨hh.1,hq _ _ _ hh.2⟩) hw
 |seq a b iha ihb =>
  intro e h Q Q' hq hw
  simp only [W] at hw ⊢
  refine iha _ _ _ _ ?_ hw
  intro x e' h'
  cases x with
  |normal=>exact ihb _ _ _ _ hq
  |exit id=>exact hq _ _ _
  |ret=>exact hq _ _ _
 |cond c a b iha ihb =>
  intro e h Q Q' hq hw
  simp only [W,zgM] at hw ⊢
  split at hw
  .exact ⟨λht=>iha _ _ _ _ hq (hw.1 ht),λht=>ihb _ _ _ _ hq (hw.2 ht)⟩
  .exact hw.elim
 |block id c ih =>
  intro e h Q Q' hq hw
  simp only [W] at hw ⊢
  refine ih _ _ _ _ ?_ hw
  intro x e' h'
  cases x with
  |normal=>exact hq _ _ _
  |exit i =>
   intro hh
   by_cases hi:i=id
   .simp only [if_pos hi] at hh ⊢;exact hq _ _ _ hh
   .simp only [if_neg hi] at hh ⊢;exact hq _ _ _ hh
  |ret=>exact hq _ _ _
 |loop c ih =>
  intro e h Q Q' hq hw
  simp only [W] at hw ⊢
  obtain ⟨n,hw⟩:=hw
  exact ⟨n,WIter.mono ih hq n e h hw⟩
 |exit id=>intro e h Q Q' hq hw;exact hq _ _ _ hw
 |ret=>intro e h Q Q' hq hw;exact hq _ _ _ hw
 |label l=>intro e h Q Q' hq hw;exact hq _ _ _ hw
 |rangeFunc g ps a b _ _ =>
  intro e h Q Q' hq hw
  simp only [W,zeN] at hw ⊢
  split at hw
  .refine ⟨hw.1,hw.2.mono λv h2 hh=>?_⟩
   unfold zgL at hh ⊢
   split at hh
   .exact hq _ _ _ hh
   .exact hh.elim
  .exact hw.elim
 |scope c ih=>intro e h Q Q' hq hw;exact ih _ _ _ _ hq hw
 |goto l=>intro e h Q Q' hq hw;exact hw.elim
 |refuse s=>intro e h Q Q' hq hw;exact hw.elim

theorem WPre.mono:∀ (pre:List Code) (e:Env) (h:Heap) (Q Q':Env->Heap->Prop),(∀ e h,Q e h->Q' e h)->WPre P T ov pre e h Q->WPre P T ov pre e h Q'
 | [],e,h,_,_,hq,hw=>hq e h hw
 |c::cs,_,_,Q,Q',hq,hw=>W.mono c _ _ _ _ (λ_ e' h' ⟨h1,h2⟩=>⟨h1,WPre.mono cs e' h' Q Q' hq h2⟩) hw
structure Hid (p:Prop):Prop where
 out:p
section
variable (P:Program) (T:Tab) (ov:Ov) (rd:Option Nat)
def finE (fn:Func) (K:KTy):Ex->Env->Heap->Prop:=λx e' h'=>(x=.ret\/x=.normal)/\∃ v,zao T fn e' h'=some v/\K v h'
end

theorem Ok.into {f:FuncId} {fn:Func} {c:Code} {args:List Vly} {h:Heap} {K:KTy} (ho:ov f=none) (hf:T.fn f=some fn) (hc:fn.body=some c) (hdf:T.dfr f=false) {m:Nat} (hm:fn.ntmps - args.length=m)
 (hw:W P T ov none c (args++List.replicate m undef) h (finE T fn K)):Ok P T ov f args h K:=Ok.enter ho hf hc hdf (by rw [hm];exact hw)

section
variable (C:Fn->List Vly->Heap->Option (Vly × Heap)) (d:Option Tmp) (ty:TypeId) (pos:String) (af:Array Edge) (g:Option (Nat × Bool)) (e:Env) (h:Heap)
end

section
variable (t:TypeId) (k:IntKind) (a b:Int)
end

end
end Go.Am
