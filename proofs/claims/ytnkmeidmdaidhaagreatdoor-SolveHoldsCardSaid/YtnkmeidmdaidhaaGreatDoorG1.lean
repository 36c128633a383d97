/- A region that draws its order: the plain machine goes by the text; what it comes to does not hang on the order. No condition. -/
import Derived.Test.YtnkmeidmdaidhaaGreatDoorG0
import Derived.Orders
import Derived.OrdersIn
set_option linter.unusedSimpArgs false
namespace Go.Am
open Go.RowKit

def WW (T:bN):List TypeId->Bool
 |t::_=>(match T.desc t with|some (.map _ _)=>false|_=>true)
 | []=>true
def rG (T:bN) (o:Oper):Bool :=
 match o.op with
 | .move _ | .assign _ | .pick _ _ _ | .build _ _ | .nilCheck _ | .binOp _ _ _ _ _ | .makeFunc _ _ _ | .slice _ _ _ _ _ | .fieldAddr _ _ _ | .field _ _ _ | .indexAddr _ _ _ | .extract _ _ | .unOp _ _ _ | .index _ _ _ | .makeInterface _ _ | .typeAssert _ _ _ _=>true
 | .convert s d _ => !sg T s && !sg T d
 | .call c=>match c.callee with
  | .builtin .len=>WW T c.argTypes.toList
  | .builtin .min | .builtin .max | .builtin .cap=>true
  |_=>false
 |_=>false

section
variable (P:Program) (T:bN) (C:Fn->List ai->Heap->Option (ai × Heap))

def lh (o:Oper) (e:Env) (h h':Heap):Nat :=
 if rG T o then 0 else if h.size<=h'.low then (match o.op with
  | .load _ a=>(match bE e a with
   | .pointer (some x)=>3+3*x.block
   |_=>1)
  | .buildSlice _ _ _=>4+3*h.size
  |_=>1)
 else (match o.op with
  | .store _ a _=>(match bE e a with
   | .pointer (some x)=>5+3*x.block
   |_=>2)
  |_=>2)
def qv (ops:Array Oper):List Oper->Env->Heap->Option (List Nat × Env × Heap)
 | [],e,h=>some ([],e,h)
 |o::r,e,h =>
  if mI ops o e then
   match iq P T C e o { h with low:=h.size } with
   |some (v,h')=>(qv ops r (put e o.dst v) { h' with low:=min h.low h'.low }).map λ(ks,x)=>(lh T o e h h'::ks,x)
   |none=>none
  else (qv ops r (put e o.dst undef) h).map λ(ks,x)=>(0::ks,x)

def OJ (acc:List Nat) (o:Oper):Nat:=o.after.toList.foldl (λs e=>if Region.binds .any e then s ||| 2 ^ e.on ||| acc.getD e.on 0 else s) 0
def nR:List Oper->List Nat->List Nat
 | [],acc=>acc
 |o::r,acc=>nR r (acc++[OJ acc o])
def sc (a b:Nat):Bool:=a == 0 || b == 0 || (a % 3 != 2 && b % 3 != 2) || (Nat.ble 5 b && b % 3 == 2 && Nat.ble 3 a && ((a % 3 == 0 && a+2 != b) || (a % 3 == 1 && Nat.ble (b+2) a)))
def LQ (ops:Array Oper) (ks ms:List Nat) (j:Nat):Bool :=
 match ops[j]? with
 |some oj=>oj.after.toList.all (λe => !Region.binds .any e || decide (e.on < j)) &&
  (List.range j).all λi=>(ms.getD j 0).testBit i || (match ops[i]? with
   |some oi=>oi.apart ops oj && sc (ks.getD i 2) (ks.getD j 2)
   |none=>true)
 |none=>true
def Pa (ops:Array Oper) (ks ms:List Nat):Bool:=(List.range ops.size).all (LQ ops ks ms)

def pg (ops:Array Oper) (e:Env) (h:Heap):Option (Env × Heap) :=
 match qv P T C ops ops.toList e h with
 |some (ks,e',h')=>if Pa ops ks (nR ops.toList []) then some (e',h') else none
 |none=>none
end

section
variable {P:Program} {T:bN} {C:Fn->List ai->Heap->Option (ai × Heap)}

theorem ztA {t:TypeId} {x:ai} {ts:List TypeId} (hb:WW T (t::ts)=true) (h h2:Heap):bW T t x h=bW T t x h2:=by
 simp only [WW] at hb
 unfold bW
 split at hb
 .cases hb
 .rename_i aL
  split
  all_goals first|rfl|(rename_i hd;exact (aL _ _ hd).elim)

theorem Vh {e:Env} {o:Oper} {h h':Heap} {v:ai} (hb:rG T o=true) (aj:iq P T C e o h=some (v,h')):h'=h/\∀ h2,iq P T C e o h2=some (v,h2):=by
 have cH:∀ {r:Option ai},(r.map λx=>(x,h))=some (v,h')->h'=h/\∀ h2:Heap,(r.map λx=>(x,h2))=some (v,h2):=by
  intro r hr
  simp only [cn,cR] at hr
  obtain ⟨_,rfl,rfl,rfl⟩:=hr
  exact ⟨rfl,λ_=>rfl⟩
 have dJ:gD P e o h=some (v,h')->h'=h/\∀ h2,gD P e o h2=some (v,h2):=by
  intro hp
  unfold gD at hp ⊢
  split at hp
  .rename_i h1
   split at hp
   .rename_i h2
    split at hp
    .rename_i h3
     cases hp
     exact ⟨rfl,λ_=>by simp [h1,h3]⟩
    .cases hp
   .cases hp
  .cases hp
 obtain ⟨dst,op,ty,pos,after,guard⟩:=o
 cases op <;> simp only [rG,gH] at hb <;> simp only [iq] at aj ⊢
 case move x=>cases aj;exact ⟨rfl,λ_=>rfl⟩
 case assign x=>cases aj;exact ⟨rfl,λ_=>rfl⟩
 case pick c a b =>
  split at aj
  .cases aj;exact ⟨rfl,λ_=>rfl⟩
  .cases aj
 case build=>exact cH aj
 case nilCheck x =>
  split at aj
  .cases aj;exact ⟨rfl,λ_=>rfl⟩
  .cases aj;exact ⟨rfl,λ_=>rfl⟩
  .cases aj;exact ⟨rfl,λ_=>rfl⟩
  .cases aj
 case makeInterface=>exact cH aj
 case typeAssert=>exact cH aj
 case binOp=>exact cH aj
 case makeFunc fn f c =>
  split at aj
  .cases aj;exact ⟨rfl,λ_=>rfl⟩
  .cases aj
 case slice=>exact cH aj
 case fieldAddr=>exact cH aj
 case field=>exact cH aj
 case indexAddr=>exact cH aj
 case extract t i =>
  split at aj
  .exact cH aj
  .cases aj
 case unOp=>exact dJ aj
 case convert s d x =>
  simp only [dW,yi] at hb
  rw [hb.1,hb.2] at aj ⊢
  exact dJ aj
 case index=>exact dJ aj
 case call c =>
  obtain ⟨callee,args,ia⟩:=c
  cases callee with
  |value f=>simp at hb
  |invoke r m=>simp at hb
  |builtin b =>
   cases b <;> simp at hb <;> simp only at aj ⊢
   case len =>
    split at aj
    .rename_i tq nG
     rw [tq] at hb
     obtain ⟨e1,e2⟩:=cH aj
     exact ⟨e1,λh2=>by rw [ztA hb h2 h];exact e2 h2⟩
    .cases aj
   case min=>exact dJ aj
   case max=>exact dJ aj
   case cap =>
    split at aj
    .exact cH aj
    .cases aj

theorem zop {e e':Env} {o:Oper} (h:Heap) (he:∀ x∈o.op.operands.toList,bE e x=bE e' x):iq P T C e o h=iq P T C e' o h:=by
 have dJ:(∀ cs b,o.op≠.select cs b)->gD P e o h=gD P e' o h:=by
  intro TF
  unfold gD
  have h1:execOp (bE e) o=execOp (bE e') o:=execOp_congr o TF (λx hx=>he x (by simpa using hx))
  have h2:(o.op.operands.toList.all λx=>plain (bE e x))=(o.op.operands.toList.all λx=>plain (bE e' x)):=by
   rw [Bool.eq_iff_iff,jE,jE]
   exact ⟨λhh x hx=>by rw [<- he x hx];exact hh x hx,λhh x hx=>by rw [he x hx];exact hh x hx⟩
  rw [h1,h2]
 have nA:∀ (xs:List Operand),(∀ x∈xs,x∈o.op.operands.toList)->xs.map (bE e)=xs.map (bE e'):=λxs hx=>Cd λx nG=>he x (hx x nG)
 unfold iq
 dsimp only
 split
 .rename_i x aP;rw [he x (by simp [aP,Op.operands])]
 .rename_i x aP;rw [he x (by simp [aP,Op.operands])]
 .rename_i c a b aP;rw [he c (by simp [aP,Op.operands]),he a (by simp [aP,Op.operands]),he b (by simp [aP,Op.operands])]
 .rfl
 .rename_i t x aP;rw [he x (by simp [aP,Op.operands])]
 .rename_i t ps aP
  rw [Cd (g:=λ(p:Nat × Operand)=>(p.1,bE e' p.2)) λp hp=>by rw [he p.2 (by simp [aP,Op.operands];exact ⟨p.1,by simpa using hp⟩)]]
 .rename_i t n ps aP
  rw [Cd (g:=λ(p:Nat × Operand)=>(p.1,bE e' p.2)) λp hp=>by rw [he p.2 (by simp [aP,Op.operands];exact ⟨p.1,by simpa using hp⟩)]]
 .rename_i t x aP;rw [he x (by simp [aP,Op.operands])]
 .rename_i t a x aP;rw [he a (by simp [aP,Op.operands]),he x (by simp [aP,Op.operands])]
 .rename_i x aP;rw [he x (by simp [aP,Op.operands])]
 .rename_i op t x y yt aP;rw [he x (by simp [aP,Op.operands]),he y (by simp [aP,Op.operands])]
 .rename_i fn f c aP
  have h1:=nA f.toList (λx hx=>by simp [aP,Op.operands];left;simpa using hx)
  have h2:=nA c.toList (λx hx=>by simp [aP,Op.operands];right;simpa using hx)
  have h3:f.map (bE e)=f.map (bE e'):=by apply Array.ext';simpa using h1
  have h4:c.map (bE e)=c.map (bE e'):=by apply Array.ext';simpa using h2
  rw [h3,h4]
 .rename_i t l c aP;rw [he l (by simp [aP,Op.operands]),he c (by simp [aP,Op.operands])]
 .rename_i t x l hi m aP
  have DD:∀ (y:Option Operand),(∀ z,y=some z->z∈o.op.operands.toList)->y.map (bE e)=y.map (bE e'):=by
   intro y hy
   cases y with
   |none=>rfl
   |some z=>simp [he z (hy z rfl)]
  rw [he x (by simp [aP,Op.operands]),DD l (λz hz=>by subst hz;simp [aP,Op.operands]),DD hi (λz hz=>by subst hz;simp [aP,Op.operands]),DD m (λz hz=>by subst hz;simp [aP,Op.operands])]
 .rename_i s x f aP;rw [he x (by simp [aP,Op.operands])]
 .rename_i t x f aP;rw [he x (by simp [aP,Op.operands])]
 .rename_i t x i aP;rw [he x (by simp [aP,Op.operands]),he i (by simp [aP,Op.operands])]
 .rename_i t i aP;rw [he t (by simp [aP,Op.operands])]
 .rename_i aP;exact dJ (by simp [aP])
 .rename_i s d x aP;rw [he x (by simp [aP,Op.operands]),dJ (by simp [aP])]
 .rename_i aP;exact dJ (by simp [aP])
 .rename_i c aP
  obtain ⟨callee,args,ia⟩:=c
  dsimp only
  have ha:=nA args.toList (λx hx=>by simp [aP,Op.operands,Call.operands];right;simpa using hx)
  have eL:∀ x∈args.toList,bE e x=bE e' x:=λx hx=>he x (by simp [aP,Op.operands,Call.operands];right;simpa using hx)
  split
  .split
   .rename_i h1 h2;rw [eL _ (by rw [h2];simp),eL _ (by rw [h2];simp)]
   .rfl
  .split
   .rename_i h1 h2;rw [eL _ (by rw [h2];simp),eL _ (by rw [h2];simp)]
   .rfl
  .split
   .rename_i h1 h2;rw [eL _ (by rw [h2];simp)]
   .rfl
  .split
   .rename_i h1 h2;rw [eL _ (by rw [h2];simp)]
   .rfl
  .exact dJ (by simp [aP])
  .exact dJ (by simp [aP])
  .split
   .rename_i h1 h2;rw [eL _ (by rw [h2];simp),eL _ (by rw [h2];simp)]
   .rfl
  .split
   .rename_i h1 h2;rw [eL _ (by rw [h2];simp)]
   .rfl
  .rename_i rv name
   rw [he rv (by simp [aP,Op.operands,Call.operands]),ha]
  .rename_i f
   rw [he f (by simp [aP,Op.operands,Call.operands]),ha]
  .rfl
 .rename_i t r aP
  cases r with
  |none=>rfl
  |some x=>simp only;rw [he x (by simp [aP,Op.operands])]
 .rename_i t x k ok aP;rw [he x (by simp [aP,Op.operands]),he k (by simp [aP,Op.operands])]
 .rename_i t m k x aP;rw [he m (by simp [aP,Op.operands]),he k (by simp [aP,Op.operands]),he x (by simp [aP,Op.operands])]
 .rename_i t m k x aP;rw [he m (by simp [aP,Op.operands]),he k (by simp [aP,Op.operands]),he x (by simp [aP,Op.operands])]
 .rename_i t m k aP;rw [he m (by simp [aP,Op.operands]),he k (by simp [aP,Op.operands])]
 .rename_i t m k x aP;rw [he m (by simp [aP,Op.operands]),he k (by simp [aP,Op.operands]),he x (by simp [aP,Op.operands])]
 .rename_i t x aP;rw [he x (by simp [aP,Op.operands])]
 .rename_i x xt t ok aP;rw [he x (by simp [aP,Op.operands])]
 .rfl
end
end Go.Am
namespace Go.Am
open Go.RowKit

section
variable {P:Program} {T:bN} {C:Fn->List ai->Heap->Option (ai × Heap)}

def eU (P:Program) (T:bN) (C:Fn->List ai->Heap->Option (ai × Heap)) (ops:Array Oper) (o:Oper) (e e1:Env) (h h1:Heap) (v:ai) (k:Nat):Prop :=
 (mI ops o e=true/\∃ h2,iq P T C e o { h with low:=h.size }=some (v,h2)/\h1={ h2 with low:=min h.low h2.low }/\e1=put e o.dst v/\k=lh T o e h h2) \/
 (mI ops o e=false/\v=undef/\h1=h/\e1=put e o.dst undef/\k=0)

theorem zsy {ops:Array Oper}:∀ (l:List Oper) (e e':Env) (h h':Heap) (ks:List Nat),qv P T C ops l e h=some (ks,e',h') ->
 ∃ (E:Nat->Env) (H:Nat->Heap) (V:Nat->ai),E 0=e/\H 0=h/\E l.length=e'/\H l.length=h'/\ks.length=l.length /\
   ∀ i o,l[i]? = some o->eU P T C ops o (E i) (E (i+1)) (H i) (H (i+1)) (V i) (ks.getD i 2)
 | [],e,e',h,h',ks,aj=>by
  simp only [qv,dR,cR] at aj
  obtain ⟨rfl,rfl,rfl⟩:=aj
  exact ⟨λ_=>e,λ_=>h,λ_=>undef,rfl,rfl,rfl,rfl,rfl,λi o hi=>by simp at hi⟩
 |o::l,e,e',h,h',ks,aj=>by
  have glue:∀ (e1:Env) (h1:Heap) (v:ai) (k:Nat) (ez:List Nat),qv P T C ops l e1 h1=some (ez,e',h')->eU P T C ops o e e1 h h1 v k->ks=k::ez ->
   ∃ (E:Nat->Env) (H:Nat->Heap) (V:Nat->ai),E 0=e/\H 0=h/\E (o::l).length=e'/\H (o::l).length=h'/\ks.length=(o::l).length /\
     ∀ i o',(o::l)[i]? = some o'->eU P T C ops o' (E i) (E (i+1)) (H i) (H (i+1)) (V i) (ks.getD i 2):=by
   intro e1 h1 v k ez hr cV hk
   obtain ⟨E,H,V,cF,da,uY,CO,h5',h6'⟩:=zsy l e1 e' h1 h' ez hr
   subst hk
   refine ⟨λn=>match n with|0=>e|n+1=>E n,λn=>match n with|0=>h|n+1=>H n,λn=>match n with|0=>v|n+1=>V n,rfl,rfl,uY,CO,by simp [h5'],?_⟩
   intro i o' hi
   cases i with
   |zero =>
    simp only [Cb,dR] at hi
    subst hi
    simp only [cF,da,List.getD_cons_zero]
    exact cV
   |succ i =>
    have:=h6' i o' (by simpa using hi)
    simpa using this
  simp only [qv] at aj
  split at aj
  .rename_i hw
   split at aj
   .rename_i v h2 hr
    simp only [cn,Prod.exists,cR] at aj
    obtain ⟨ez,x1,x2,cI,hk,rfl,rfl⟩:=aj
    exact glue _ _ v _ ez cI (.inl ⟨hw,h2,hr,rfl,rfl,rfl⟩) hk.symm
   .cases aj
  .rename_i hw
   simp only [cn,Prod.exists,cR] at aj
   obtain ⟨ez,x1,x2,cI,hk,rfl,rfl⟩:=aj
   exact glue _ _ undef _ ez cI (.inr ⟨by simpa using hw,rfl,rfl,rfl,rfl⟩) hk.symm

theorem Vr:∀ (l:List Oper) (acc:List Nat) (k:Nat),k < acc.length->(nR l acc).getD k 0=acc.getD k 0
 | [],acc,k,_=>rfl
 |o::l,acc,k,hk=>by
  rw [nR,Vr l _ k (by simp;omega)]
  simp [jC hk]
theorem WX:∀ (l:List Oper) (acc:List Nat) (t:Nat) (o:Oper),l[t]? = some o->∃ qN:List Nat,qN.length=acc.length+t/\(nR l acc).getD (acc.length+t) 0=OJ qN o/\∀ k,k < acc.length+t->qN.getD k 0=(nR l acc).getD k 0
 | [],acc,t,o,h=>by simp at h
 |o'::l,acc,0,o,h=>by
  simp only [Cb,dR] at h
  subst h
  refine ⟨acc,rfl,?_,λk hk=>?_⟩
  .rw [nR,gS,Vr l _ acc.length (by simp)]
   simp
  .rw [nR,Vr l _ k (by simp;omega)]
   simp [jC (show k < acc.length by omega)]
 |o'::l,acc,t+1,o,h=>by
  obtain ⟨qN,h1,h2,h3⟩:=WX l (acc++[OJ acc o']) t o (by simpa using h)
  simp only [cT,jk] at h1 h2 h3
  rw [show acc.length+(t+1)=acc.length+1+t by omega]
  exact ⟨qN,h1,h2,h3⟩

theorem zh5 {acc:List Nat} {o:Oper} {i:Nat} (h:(OJ acc o).testBit i=true):∃ e∈o.after.toList,Region.binds .any e=true/\(i=e.on\/(acc.getD e.on 0).testBit i=true):=by
 have key:∀ (l:List Edge) (s:Nat),(l.foldl (λs e=>if Region.binds .any e then s ||| 2 ^ e.on ||| acc.getD e.on 0 else s) s).testBit i=true ->
  s.testBit i=true\/∃ e∈l,Region.binds .any e=true/\(i=e.on\/(acc.getD e.on 0).testBit i=true):=by
  intro l
  induction l with
  |nil=>intro s hs;exact .inl hs
  |cons e l ih =>
   intro s hs
   rw [tP] at hs
   rcases ih _ hs with h1|⟨e',h1,h2,h3⟩
   .split at h1
    .rename_i hb
     rw [Nat.testBit_or,Nat.testBit_or,sF,sF] at h1
     rcases h1 with (h1|h1)|h1
     .exact .inl h1
     .rw [Nat.testBit_two_pow] at h1
      exact .inr ⟨e,by simp,hb,.inl (of_decide_eq_true h1).symm⟩
     .exact .inr ⟨e,by simp,hb,.inr h1⟩
    .exact .inl h1
   .exact .inr ⟨e',by simp [h1],h2,h3⟩
 rcases key _ 0 h with h1|h1
 .simp at h1
 .exact h1

theorem zoJ {ops:Array Oper} {S:Nat->Prop} (nu:∀ (j:Nat) (o:Oper),ops[j]? = some o->∀ e∈o.after.toList,Region.binds .any e=true->e.on < j)
 (lU:∀ (j:Nat) (o:Oper),ops[j]? = some o->S j->∀ e∈o.after.toList,Region.binds .any e=true->S e.on) :
 ∀ (n j:Nat) (o:Oper) (i:Nat),j<=n->ops[j]? = some o->(∀ e∈o.after.toList,Region.binds .any e=true->S e.on)->((nR ops.toList []).getD j 0).testBit i=true->S i:=by
 intro n
 induction n with
 |zero =>
  intro j o i hj ho hd hb
  obtain ⟨qN,h1,h2,h3⟩:=WX ops.toList [] j o (by simpa using ho)
  simp only [dK,i5] at h1 h2 h3
  rw [h2] at hb
  obtain ⟨e,he,gV,_⟩:=zh5 hb
  have:=nu j o ho e he gV
  omega
 |succ n ih =>
  intro j o i hj ho hd hb
  obtain ⟨qN,h1,h2,h3⟩:=WX ops.toList [] j o (by simpa using ho)
  simp only [dK,i5] at h1 h2 h3
  rw [h2] at hb
  obtain ⟨e,he,gV,hi⟩:=zh5 hb
  have bc:=nu j o ho e he gV
  have hS:=hd e he gV
  rcases hi with rfl|hi
  .exact hS
  .rw [h3 e.on bc] at hi
   have Ni:j < ops.size:=(my.1 ho).1
   have Zx:ops[e.on]? = some (ops[e.on]'(by omega)):=GN _
   exact ih e.on _ i (by omega) Zx (lU e.on _ Zx hS) hi

def eS (e0:Env) (dst:Nat->Option Tmp) (V:Nat->ai) (S:Nat->Bool):Nat->Env
 |0=>e0
 |k+1=>if S k then put (eS e0 dst V S k) (dst k) (V k) else eS e0 dst V S k

theorem Mi {e0:Env} {dst:Nat->Option Tmp} {V:Nat->ai} {S:Nat->Bool} {k:Nat} (h:S k=true):eS e0 dst V S (k+1)=put (eS e0 dst V S k) (dst k) (V k):=by simp only [eS,h,if_true]
theorem GW {e0:Env} {dst:Nat->Option Tmp} {V:Nat->ai} {S:Nat->Bool} {k:Nat} (h:S k=false):eS e0 dst V S (k+1)=eS e0 dst V S k:=by simp only [eS,h,gH,if_false]
theorem Of (e:Env) (d:Option Tmp) (v:ai):(put e d v).length=e.length:=by cases d <;> simp [put,Env.length_set]
theorem EI (e0:Env) (dst:Nat->Option Tmp) (V:Nat->ai) (S:Nat->Bool):∀ k,(eS e0 dst V S k).length=e0.length
 |0=>rfl
 |k+1=>by
  simp only [eS]
  split
  .rw [Of,EI e0 dst V S k]
  .exact EI e0 dst V S k
theorem Gq {e:Env} {d:Option Tmp} {v:ai} {t:Nat} (h:d≠some t):(put e d v).get t=e.get t:=by
 cases d with
 |none=>rfl
 |some d=>simp only [put,Env.aH];rw [aA (λhh=>h (by rw [hh.1]))]
theorem Vj {e e':Env} (hl:e.length=e'.length) {d:Option Tmp} {v:ai} {t:Nat} (h:e.get t=e'.get t):(put e d v).get t=(put e' d v).get t:=by
 cases d with
 |none=>exact h
 |some d=>simp only [put,Env.aH,hl,h]

end
end Go.Am
namespace Go.Am
open Go.RowKit
variable {k:Nat} {v:ai} {h h' h1:Heap} {e e1:Env} {o:Oper} {ops:Array Oper} {t:TypeId}

theorem zn9 {p p':Nat->Bool}:∀ (l:List Nat),(∀ k∈l,p' k=true->p k=true)->(∃ x∈l,p x=true/\p' x=false)->l.countP p' < l.countP p
 | [],_,h=>by obtain ⟨x,hx,_⟩:=h;simp at hx
 |a::l,hle,h=>by
  have Zq:l.countP p'<=l.countP p:=List.countP_mono_left λk hk=>hle k (by simp [hk])
  obtain ⟨x,hx,hp,kV⟩:=h
  rw [G3,G3]
  rcases db.1 hx with rfl|hx
  .simp only [hp,kV,if_true,gH,if_false]
   omega
  .have ih:=zn9 l (λk hk=>hle k (by simp [hk])) ⟨x,hx,hp,kV⟩
   by_cases ha:p' a=true
   .rw [aB ha,aB (hle a (by simp) ha)];omega
   .rw [aA ha];split <;> omega

section
variable {P:Program} {T:bN} {C:Fn->List ai->Heap->Option (ai × Heap)}

theorem Heap.ly (h:Heap) (x A:Nat):Heap.get { h with low:=x } A=h.get A:=rfl

theorem eU.keeps (hg:sC C) (hs:eU P T C ops o e e1 h h1 v k):bq h h1:=by
 rcases hs with ⟨_,h2,aj,rfl,_,_⟩|⟨_,_,rfl,_,_⟩
 .have hk:=Ep hg aj
  exact ⟨hk.size,xj _ _,λA h3 h4=>hk.get A h3 (dt h4 (G6 _ _))⟩
 .exact .refl _
theorem zjv (hb:rG T o=true):lh T o e h h'=0:=by unfold lh;rw [aB hb]
theorem VK (hb:¬ rG T o=true) (hl:h.size<=h'.low):lh T o e h h' % 3≠2/\lh T o e h h'≠0 /\
 (lh T o e h h'=1\/(∃ t a x,o.op=.load t a/\bE e a=.pointer (some x)/\lh T o e h h'=3+3*x.block)\/((∃ t n ps,o.op=.buildSlice t n ps)/\lh T o e h h'=4+3*h.size)):=by
 unfold lh
 rw [aA hb,aB hl]
 split
 .rename_i t a aP
  split
  .rename_i x hx
   exact ⟨by omega,by omega,.inr (.inl ⟨t,a,x,aP,hx,rfl⟩)⟩
  .exact ⟨by omega,by omega,.inl rfl⟩
 .rename_i t n ps aP
  exact ⟨by omega,by omega,.inr (.inr ⟨⟨t,n,ps,aP⟩,rfl⟩)⟩
 .exact ⟨by omega,by omega,.inl rfl⟩
theorem Od (hb:¬ rG T o=true) (hl:¬ h.size<=h'.low):lh T o e h h' % 3=2 /\
 (lh T o e h h'=2\/∃ t a y x,o.op=.store t a y/\bE e a=.pointer (some x)/\lh T o e h h'=5+3*x.block):=by
 unfold lh
 rw [aA hb,aA hl]
 split
 .rename_i t a y aP
  split
  .rename_i x hx
   exact ⟨by omega,.inr ⟨t,a,y,x,aP,hx,rfl⟩⟩
  .exact ⟨rfl,.inl rfl⟩
 .exact ⟨rfl,.inl rfl⟩
theorem ON {a b:Nat} (ha:a % 3=2) (hk:sc a b=true):b=0:=by
 unfold sc at hk
 simp only [sF,dW,beq_iff_eq,bne_iff_ne] at hk
 omega
theorem zv1 {a b:Nat} (hb:b % 3=2) (hk:sc a b=true):a=0\/(5<=b/\((a % 3=0/\3<=a/\a+2≠b)\/(a % 3=1/\3<=a/\b+2<=a))):=by
 unfold sc at hk
 simp only [sF,dW,beq_iff_eq,bne_iff_ne,Nat.ble_eq] at hk
 omega
theorem eU.same (hg:sC C) (hs:eU P T C ops o e e1 h h1 v k) (kD:k % 3≠2):∀ A,A < h.size->h1.get A=h.get A:=by
 rcases hs with ⟨_,h2,aj,rfl,_,hk⟩|⟨_,_,rfl,_,_⟩
 .intro A hA
  by_cases hb:rG T o=true
  .rw [Heap.ly,(Vh hb aj).1];rfl
  .by_cases hl:h.size<=h2.low
   .exact (Ep hg aj).get A hA (by omega)
   .exact (kD (by rw [hk];exact (Od hb hl).1)).elim
 .intro A _;rfl
theorem eU.still (hs:eU P T C ops o e e1 h h1 v k) (rY:k=0):h1.size=h.size/\∀ A,h1.get A=h.get A:=by
 rcases hs with ⟨_,h2,aj,rfl,_,hk⟩|⟨_,_,rfl,_,_⟩
 .by_cases hb:rG T o=true
  .obtain ⟨rfl,_⟩:=Vh hb aj
   exact ⟨rfl,λ_=>rfl⟩
  .exfalso
   by_cases hl:h.size<=h2.low
   .exact (VK hb hl).2.1 (by rw [<- hk,rY])
   .have:=(Od (e:=e) hb hl).1
    omega
 .exact ⟨rfl,λ_=>rfl⟩
theorem eU.other (hs:eU P T C ops o e e1 h h1 v k) (kD:k % 3=2) (hk5:5<=k):∀ A,5+3*A≠k->h1.get A=h.get A:=by
 rcases hs with ⟨_,h2,aj,rfl,_,hk⟩|⟨_,_,rfl,_,_⟩
 .intro A hA
  by_cases hb:rG T o=true
  .rw [zjv hb] at hk;omega
  .by_cases hl:h.size<=h2.low
   .have:=(VK (e:=e) hb hl).1
    omega
   .rcases (Od (e:=e) hb hl).2 with h3|⟨t,a,y,x,aP,hx,h3⟩
    .omega
    .have aL:A≠x.block:=λe'=>by subst e';omega
     unfold iq at aj
     simp only [aP,hx,cn,cR] at aj
     obtain ⟨h4,hr,_,rfl⟩:=aj
     rw [Heap.ly]
     obtain ⟨B,off,sp⟩:=x
     unfold iQ at hr
     split at hr
     .rename_i B' o' heq
      cases heq
      simp only [cy] at hr
      obtain ⟨n,_,hr⟩:=hr
      split at hr
      .unfold nQ at hr
       split at hr
       .rename_i cs e' hg
        split at hr
        .cases hr
         rw [Heap.aH _ _ _ _ (Heap.ao hg),aA aL]
         rfl
        .cases hr
       .cases hr
      .cases hr
     .cases hr
 .intro A _;rfl

theorem bM.swap {ρ:ct} {w:World} (hs:bM ρ h w) (ga:∀ A L,ρ A=some L->h1.get A=h.get A\/h1.get A=none):bM ρ h1 w:=by
 refine ⟨λA L hA=>?_,λA A' L L' hA fw aL hb=>?_⟩
 .rcases ga A L hA with h2|h2
  .rw [h2];exact hs.lx A L hA
  .rw [h2];exact hs.lt hA
 .have eD:∀ B M,ρ B=some M->¬ live h B->¬ live h1 B:=by
   rintro B M hB hn ⟨b,h3,h4⟩
   rcases ga B M hB with h2|h2
   .exact hn ⟨b,by rw [<- h2];exact h3,h4⟩
   .rw [h2] at h3;cases h3
  rcases hs.inj A A' L L' hA fw aL hb with h2|h2|⟨⟨c1,e1,h2⟩,⟨c2,e2,h3⟩⟩
  .exact .inl (eD _ _ hA h2)
  .exact .inr (.inl (eD _ _ fw h2))
  .rcases ga A L hA with h4|h4
   .rcases ga A' L' fw with h5|h5
    .exact .inr (.inr ⟨⟨c1,e1,by rw [h4];exact h2⟩,⟨c2,e2,by rw [h5];exact h3⟩⟩)
    .exact .inr (.inl (by rintro ⟨b,h6,_⟩;rw [h5] at h6;cases h6))
   .exact .inl (by rintro ⟨b,h6,_⟩;rw [h4] at h6;cases h6)

theorem Fr.step {ρ0 ρ ρ':ct} {h0 hf hi hj:Heap} {w0 w w':World} (f:Fr ρ0 ρ h0 hf w0 w) (g:Fr ρ ρ' hi hj w w') (h1:hf.low<=hj.low) (h2:hj.size<=hf.size) (h3:h0.size<=hi.size):Fr ρ0 ρ' h0 hf w0 w':=by
 refine ⟨λA L hA=>g.grow A L (f.grow A L hA),?_,g.os.trans f.os,g.tape.trans f.tape,g.output.trans f.output,dZ f.size g.size,f.gY,f.low,?_,f.rS⟩
 .intro A L hA hn
  cases hρ:ρ A with
  |some L1 =>
   have e:L1=L:=by have:=g.grow A L1 hρ;rw [hA] at this;exact (Option.some.inj this).symm
   subst e
   exact f.fresh A L1 hρ hn
  |none =>
   obtain ⟨k1,k2,k3⟩:=g.fresh A L hA hρ
   refine ⟨by omega,by omega,?_⟩
   rcases k3 with k3|⟨A0,L0,h5,he,hl,yV⟩
   .exact .inl (dZ f.size k3)
   .cases DZ:ρ0 A0 with
    |some L1 =>
     have e:L1=L0:=by have:=f.grow A0 L1 DZ;rw [h5] at this;exact (Option.some.inj this).symm
     subst e
     exact .inr ⟨A0,L1,DZ,he,by omega,by omega⟩
    |none =>
     rcases (f.fresh A0 L0 h5 DZ).2.2 with h6|⟨A1,L1,h6,he6,hl6,S9⟩
     .exact .inl (by omega)
     .exact .inr ⟨A1,L1,h6,he6.trans he,hl6,S9⟩
 .intro b hb aE
  rw [g.fN b (dt hb f.size) ?_,f.fN b hb aE]
  intro A L hA hL
  cases hρ:ρ0 A with
  |some L0 =>
   have e:L0=L:=by have:=f.grow A L0 hρ;rw [hA] at this;exact (Option.some.inj this).symm
   subst e
   have:=aE A L0 hρ hL
   omega
  |none =>
   rcases (f.fresh A L hA hρ).2.2 with k1|⟨A0,L0,h5,he,hl,yV⟩
   .omega
   .have:=aE A0 L0 h5 (he.trans hL)
    omega

theorem zqx {x:Addr} {hh:Heap} (hg:hh.get x.block=h.get x.block):hU T t (.pointer (some x)) hh=hU T t (.pointer (some x)) h:=by
 obtain ⟨B,o,s⟩:=x
 cases s <;> simp only [hU,kA,hg]
theorem zx6 {x:Addr} (hl:hU T t (.pointer (some x)) h=some v):x.block < h.size:=by
 rcases mM x.block h.size with h1|h1
 .exact h1
 .exfalso
  have hn:h.get x.block=none:=by unfold Heap.get;rw [aA (by omega)]
  obtain ⟨B,o,s⟩:=x
  simp only at hn
  cases s with
  |some q=>cases hl
  |none =>
   simp only [hU,kA,hn,cy] at hl
   obtain ⟨g,_,hl⟩:=hl
   cases g <;> simp at hl
theorem zi9 {n:Nat} {ps:List (Nat × ai)} {h2:Heap} (hb:wW T t n ps h=some (v,h2)) (hs:h1.size=h.size):∃ b,h2=h.push b/\wW T t n ps h1=some (v,h1.push b):=by
 unfold wW at hb ⊢
 split at hb
 .rename_i e hd
  simp only [cy,Prod.exists] at hb
  obtain ⟨k,tT,z,hi,hb⟩:=hb
  split at hb
  .cases hb
  .rename_i hc
   simp only [cn,cR] at hb
   obtain ⟨cs,qV,rfl,rfl⟩:=hb
   refine ⟨_,rfl,?_⟩
   simp only [hi,dH]
   rw [aA hc,qV,hs]
   rfl
 .cases hb
theorem zqB {t:Nat} (h:Operand.tmp t∈o.op.operands.toList):t∈o.looksAt ops:=by
 unfold Oper.looksAt
 rw [iT]
 left
 rw [List.mem_filterMap]
 exact ⟨_,h,rfl⟩

set_option maxHeartbeats 1000000 in
theorem zf2 (ko:P.follows .mixedOrders=true) (hT:T.Fits P) {gs:List Nat} (hC:CS P gs C) (hg:sC C):DS P gs (pg P T C):=by
 intro rl id ops e0 e' h0 h' ρ0 a0 w0 Q aj df hG0 hs0 IJ vx hQ
 unfold pg at aj
 split at aj
 case h_2=>cases aj
 rename_i ks ee hh ey
 split at aj
 case isFalse=>cases aj
 rename_i AY
 cases aj
 obtain ⟨E,H,V,RX,CT,YT,yF,jI,htr⟩:=zsy ops.toList e0 e' h0 h' ks ey
 rw [uE] at YT yF
 have pM:∀ i o,ops[i]? = some o->eU P T C ops o (E i) (E (i+1)) (H i) (H (i+1)) (V i) (ks.getD i 2):=λi o ho=>htr i o (by simpa using ho)
 have fS:∀ i,i < ops.size->∃ o,ops[i]? = some o:=λi hi=>⟨_,GN hi⟩
 have de:∀ i j,i<=j->j<=ops.size->bq (H i) (H j):=by
  intro i j fk
  induction fk with
  |refl=>intro _;exact .refl _
  |step fk ih =>
   rename_i k
   intro hj
   obtain ⟨o,ho⟩:=fS k (by omega)
   exact (ih (by omega)).trans ((pM k o ho).keeps hg)
 have gX:∀ i j,i<=j->j<=ops.size->(∀ k,i<=k->k < j->ks.getD k 2 % 3≠2)->∀ A,A < (H i).size->(H j).get A=(H i).get A:=by
  intro i j fk
  induction fk with
  |refl=>intro _ _ A _;rfl
  |step fk ih =>
   rename_i k
   intro hj hk A hA
   obtain ⟨o,ho⟩:=fS k (by omega)
   have h1:=(pM k o ho).same hg (hk k (by omega) (nj _)) A (dt hA (de i k (by omega) (by omega)).size)
   exact h1.trans (ih (by omega) (λq h2 h3=>hk q h2 (by omega)) A hA)
 have qh:∀ j,j < ops.size->LQ ops ks (nR ops.toList []) j=true:=λj hj=>jE.1 AY j (uI.2 hj)
 have nu:∀ (j:Nat) (o:Oper),ops[j]? = some o->∀ e∈o.after.toList,Region.binds .any e=true->e.on < j:=by
  intro j o ho e he hb
  have:=qh j (my.1 ho).1
  simp only [LQ,ho,dW,jE] at this
  have h2:=this.1 e he
  simpa [hb] using h2
 have Bj:∀ (i j:Nat) (oi oj:Oper),i < j->ops[i]? = some oi->ops[j]? = some oj->((nR ops.toList []).getD j 0).testBit i=true\/(oi.apart ops oj=true/\sc (ks.getD i 2) (ks.getD j 2)=true):=by
  intro i j oi oj fk Jj q9
  have:=qh j (my.1 q9).1
  simp only [LQ,q9,dW,jE] at this
  have h2:=this.2 i (uI.2 fk)
  simpa [Jj] using h2
 clear AY qh
 let dst:Nat->Option Tmp:=λk=>(ops[k]?).bind (·.dst)
 refine wpIn_region_any ko ?_
 have Io:∀ k,k<=ops.size->(E k).length=e0.length:=by
  intro k
  induction k with
  |zero=>intro _;rw [RX]
  |succ k ih =>
   intro hk
   obtain ⟨o,ho⟩:=fS k (by omega)
   rcases pM k o ho with ⟨_,_,_,_,h1,_⟩|⟨_,_,_,h1,_⟩ <;> rw [h1,Of,ih (by omega)]
 have AO:∀ k o,ops[k]? = some o->E (k+1)=put (E k) (dst k) (V k):=by
  intro k o ho
  have hd:dst k=o.dst:=by simp [dst,ho]
  rw [hd]
  rcases pM k o ho with ⟨_,_,_,_,h1,_⟩|⟨_,h2,_,h1,_⟩
  .exact h1
  .rw [h1,h2]
 have fin:∀ (listed:Array Bool) (ρ:ct) (a:Act) (w:World),(∀ k,k < ops.size->listed.getD k false=true)->cd ρ (eS e0 dst V (λk=>listed.getD k false) ops.size) a.tmps->a.defers=a0.defers ->
  (∃ m,m<=ops.size/\bM ρ (H m) w/\(∀ k,k < m->ks.getD k 2 % 3=2->listed.getD k false=true)/\(m=ops.size\/(ks.getD m 2 % 3=2/\listed.getD m false=false)))->Fr ρ0 ρ h0 h' w0 w->Q .normal a w:=by
  intro listed ρ a w aE kR sZ tn dI
  obtain ⟨m,gF,ff,tY,FP⟩:=tn
  have Tm:m=ops.size:=by
   rcases FP with h1|⟨_,h1⟩
   .exact h1
   .rcases mM m ops.size with h2|h2
    .rw [aE m h2] at h1;cases h1
    .omega
  subst Tm
  rw [yF] at ff
  have heq:∀ k,k<=ops.size->eS e0 dst V (λk=>listed.getD k false) k=E k:=by
   intro k
   induction k with
   |zero=>intro _;exact RX.symm
   |succ k ih =>
    intro hk
    obtain ⟨o,ho⟩:=fS k (by omega)
    simp only [eS]
    rw [aB (aE k (by omega)),ih (by omega),AO k o ho]
  rw [heq _ (aQ _),YT] at kR
  exact hQ ρ a w dI ff kR sZ
 have wO:∀ (listed:Array Bool),listed.size=ops.size->Region.ready .any ops listed=[]->∀ k,k < ops.size->listed.getD k false=true:=by
  intro listed Bd hr k
  induction k using Nat.strongRecOn with
  |_ k ih =>
   intro hk
   cases hb:listed.getD k false with
   |true=>rfl
   |false =>
    exfalso
    obtain ⟨o,ho⟩:=fS k hk
    have eL:k∈Region.ready .any ops listed:=by
     rw [mem_ready]
     refine ⟨?_,o,ho,λe he gV=>?_⟩
     .have:k < listed.size:=by omega
      simp [this] at hb ⊢
      exact hb
     .have bc:=nu k o ho e (by simpa using he) gV
      exact ih e.on bc (by omega)
    rw [hr] at eL
    cases eL
 have main:∀ (fuel:Nat) (listed:Array Bool) (ρ:ct) (a:Act) (w:World),listed.size=ops.size->(List.range ops.size).countP (λk => !listed.getD k false)<=fuel ->
  (∀ (j:Nat) (o:Oper),ops[j]? = some o->listed.getD j false=true->∀ e∈o.after.toList,Region.binds .any e=true->listed.getD e.on false=true) ->
  cd ρ (eS e0 dst V (λk=>listed.getD k false) ops.size) a.tmps->a.defers=a0.defers ->
  (∃ m,m<=ops.size/\bM ρ (H m) w/\(∀ k,k < m->ks.getD k 2 % 3=2->listed.getD k false=true)/\(m=ops.size\/(ks.getD m 2 % 3=2/\listed.getD m false=false))) ->
  (∀ A L,ρ A=some L->ρ0 A=some L\/∃ j,j < ops.size/\listed.getD j false=true/\(H j).size<=A/\A < (H (j+1)).size) ->
  Fr ρ0 ρ h0 h' w0 w->wpAnyIn (WR rl) 0 P .any ops Q fuel listed a w:=by
  intro fuel
  induction fuel with
  |zero =>
   intro listed ρ a w Bd sW lU kR sZ tn qW dI
   have aE:∀ k,k < ops.size->listed.getD k false=true:=by
    intro k hk
    have h1:=List.countP_eq_zero.1 (Nat.le_zero.1 sW) k (uI.2 hk)
    simpa using h1
   refine ⟨?_,fin listed ρ a w aE kR sZ tn dI⟩
   apply List.eq_nil_iff_forall_not_mem.2
   intro i hi
   rw [mem_ready] at hi
   obtain ⟨h1,o,ho,_⟩:=hi
   have bc:i < ops.size:=(my.1 ho).1
   have h2:=aE i bc
   have:i < listed.size:=by omega
   simp [this] at h1 h2
   rw [h2] at h1
   cases h1
  |succ fuel ih =>
   intro listed ρ a w Bd sW lU kR sZ tn qW dI
   refine ⟨λhr=>fin listed ρ a w (wO listed Bd hr) kR sZ tn dI,?_⟩
   intro i hi
   rw [mem_ready] at hi
   obtain ⟨yT,o,ho,mg⟩:=hi
   have IX:i < ops.size:=(my.1 ho).1
   have FG:listed.getD i false=false:=by
    have:i < listed.size:=by omega
    simp [this] at yT ⊢
    exact yT
   have Bk:∀ e∈o.after.toList,Region.binds .any e=true->listed.getD e.on false=true:=λe he hb=>mg e (by simpa using he) hb
   have pC:∀ k,(listed.setIfInBounds i true).getD k false=(decide (k=i) || listed.getD k false):=by
    intro k
    by_cases hk:k=i
    .subst hk
     have:k < listed.size:=by omega
     simp [this]
    .simp [GH (Ne.symm hk),hk]
   have ou:∀ k ok,k < i->ops[k]? = some ok->listed.getD k false=false->ok.apart ops o=true/\sc (ks.getD k 2) (ks.getD i 2)=true:=by
    intro k ok tg jf hk
    rcases Bj k i ok o tg jf ho with h1|h1
    .have:=zoJ (S:=λj=>listed.getD j false=true) nu lU i i o k (aQ _) ho Bk h1
     rw [hk] at this
     cases this
    .exact h1
   have iC:∀ j oj,i < j->ops[j]? = some oj->listed.getD j false=true->o.apart ops oj=true/\sc (ks.getD i 2) (ks.getD j 2)=true:=by
    intro j oj fk q9 hj
    rcases Bj i j o oj fk ho q9 with h1|h1
    .have:=zoJ (S:=λj=>listed.getD j false=true) nu lU j j oj i (aQ _) q9 (lU j oj q9 hj) h1
     rw [FG] at this
     cases this
    .exact h1
   have Bc:∀ t,t∈o.looksAt ops->(eS e0 dst V (λk=>listed.getD k false) ops.size).get t=(E i).get t:=by
    intro t ht
    have p1:∀ k,k<=i->(eS e0 dst V (λk=>listed.getD k false) k).get t=(E k).get t:=by
     intro k
     induction k with
     |zero=>intro _;rw [RX];rfl
     |succ k mG =>
      intro hk
      obtain ⟨ok,jf⟩:=fS k (by omega)
      rw [AO k ok jf]
      simp only [eS]
      split
      .exact Vj (by rw [EI,Io k (by omega)]) (mG (by omega))
      .rename_i je
       rw [mG (by omega),Gq]
       intro hd
       have CU:=(Oper.apart_spec (ou k ok (by omega) jf (by simpa using je)).1).1
       exact CU t (by simpa [dst,jf] using hd) ht
    have p2:∀ k,i<=k->k<=ops.size->(eS e0 dst V (λk=>listed.getD k false) k).get t=(eS e0 dst V (λk=>listed.getD k false) i).get t:=by
     intro k vG
     induction vG with
     |refl=>intro _;rfl
     |step vG mG =>
      rename_i k
      intro hk
      obtain ⟨ok,jf⟩:=fS k (by omega)
      simp only [eS]
      split
      .rename_i je
       rw [Gq,mG (by omega)]
       intro hd
       have aL:i≠k:=λe=>by subst e;rw [FG] at je;cases je
       have SU:i<=k:=vG
       have CU:=(Oper.apart_spec (iC k ok (by omega) jf je).1).2.2
       exact CU t (by simpa [dst,jf] using hd) ht
      .exact mG (by omega)
    rw [p2 _ (by omega) (aQ _),p1 i (aQ _)]
   have Jn:∀ x∈o.op.operands.toList,bE (eS e0 dst V (λk=>listed.getD k false) ops.size) x=bE (E i) x:=by
    intro x hx
    cases x with
    |tmp t=>exact Bc t (zqB hx)
    |_=>rfl
   have JO:mI ops o (eS e0 dst V (λk=>listed.getD k false) ops.size)=mI ops o (E i):=by
    unfold mI
    cases Nd:o.guard with
    |none=>rfl
    |some g =>
     obtain ⟨j,b⟩:=g
     simp only
     cases hdj:(ops[j]?).bind (·.dst) with
     |none=>rfl
     |some t =>
      simp only
      rw [Bc t (by unfold Oper.looksAt;rw [iT];right;simp [Nd,hdj])]
   have IW:∀ t,(eS e0 dst V (λk=>(listed.setIfInBounds i true).getD k false) ops.size).get t=(put (eS e0 dst V (λk=>listed.getD k false) ops.size) o.dst (V i)).get t:=by
    intro t
    have hdi:dst i=o.dst:=by simp [dst,ho]
    have p1:∀ k,k<=i->eS e0 dst V (λk=>(listed.setIfInBounds i true).getD k false) k=eS e0 dst V (λk=>listed.getD k false) k:=by
     intro k
     induction k with
     |zero=>intro _;rfl
     |succ k mG =>
      intro hk
      have tg:decide (k=i)=false:=by simp;omega
      cases je:listed.getD k false with
      |true=>rw [Mi (S:=λk=>(listed.setIfInBounds i true).getD k false) (by show (listed.setIfInBounds i true).getD k false=true;rw [pC k,je];simp),Mi (S:=λk=>listed.getD k false) je,mG (by omega)]
      |false=>rw [GW (S:=λk=>(listed.setIfInBounds i true).getD k false) (by show (listed.setIfInBounds i true).getD k false=false;rw [pC k,je,tg];rfl),GW (S:=λk=>listed.getD k false) je,mG (by omega)]
    have p2:∀ k,i+1<=k->k<=ops.size->(eS e0 dst V (λk=>(listed.setIfInBounds i true).getD k false) k).get t=(put (eS e0 dst V (λk=>listed.getD k false) k) o.dst (V i)).get t:=by
     intro k vG
     induction vG with
     |refl =>
      intro _
      rw [Mi (S:=λk=>(listed.setIfInBounds i true).getD k false) (by show (listed.setIfInBounds i true).getD i false=true;rw [pC i];simp),p1 i (aQ _),GW (S:=λk=>listed.getD k false) FG,hdi]
     |step vG mG =>
      rename_i k
      intro hk
      have SU:i+1<=k:=vG
      obtain ⟨ok,jf⟩:=fS k (by omega)
      have tg:decide (k=i)=false:=by simp;omega
      have zs:=mG (by omega)
      cases je:listed.getD k false with
      |true =>
       rw [Mi (S:=λk=>(listed.setIfInBounds i true).getD k false) (by show (listed.setIfInBounds i true).getD k false=true;rw [pC k,je];simp),Mi (S:=λk=>listed.getD k false) je]
       have CU:=(Oper.apart_spec (iC k ok (by omega) jf je).1).2.1
       have hdk:dst k=ok.dst:=by simp [dst,jf]
       have hlen:(eS e0 dst V (λk=>(listed.setIfInBounds i true).getD k false) k).length=(eS e0 dst V (λk=>listed.getD k false) k).length:=by rw [EI,EI]
       by_cases SA:o.dst=some t
       .have aL:dst k≠some t:=by rw [hdk];exact λe=>CU t SA e
        rw [Gq aL,zs]
        exact Vj (by rw [Of]) (Gq aL).symm
       .rw [Gq SA] at zs
        rw [Gq SA]
        exact Vj hlen zs
      |false =>
       rw [GW (S:=λk=>(listed.setIfInBounds i true).getD k false) (by show (listed.setIfInBounds i true).getD k false=false;rw [pC k,je,tg];rfl),GW (S:=λk=>listed.getD k false) je]
       exact zs
    exact p2 _ (by omega) (aQ _)
   have vM:(listed.setIfInBounds i true).size=ops.size:=by simp [Bd]
   have pF:(List.range ops.size).countP (λk => !(listed.setIfInBounds i true).getD k false)<=fuel:=by
    have:=zn9 (p:=λk => !listed.getD k false) (p':=λk => !(listed.setIfInBounds i true).getD k false) (List.range ops.size)
     (λk _ hk=>by rw [pC k] at hk;simp at hk ⊢;exact hk.2) ⟨i,uI.2 IX,by rw [FG];rfl,by rw [pC i];simp⟩
    omega
   have lV:∀ (j:Nat) (oj:Oper),ops[j]? = some oj->(listed.setIfInBounds i true).getD j false=true->∀ e∈oj.after.toList,Region.binds .any e=true->(listed.setIfInBounds i true).getD e.on false=true:=by
    intro j oj q9 hj e he hb
    rw [pC e.on]
    rw [pC j] at hj
    by_cases tX:j=i
    .subst tX
     rw [ho] at q9
     cases q9
     rw [Bk e he hb]
     simp
    .have Ba:listed.getD j false=true:=by simpa [tX] using hj
     rw [lU j oj q9 Ba e he hb]
     simp
   have pH:∀ (ρ':ct) (u:ai),(∀ A L,ρ A=some L->ρ' A=some L)->VR ρ' (V i) u->cd ρ' (eS e0 dst V (λk=>(listed.setIfInBounds i true).getD k false) ops.size) (a.put o.dst u).tmps:=by
    intro ρ' u A9 hv
    have h1:=(kR.mono A9).put hv o.dst
    exact ⟨by rw [EI,<- h1.1,Of,EI],λt=>by rw [IW t];exact h1.2 t⟩
   have pG:∀ u,(a.put o.dst u).defers=a0.defers:=λu=>by cases o.dst <;> exact sZ
   obtain ⟨m,gF,ff,tY,FP⟩:=tn
   have mn:ks.getD i 2 % 3≠2->∀ (ρ':ct) (w':World),bM ρ' (H m) w'->∃ m,m<=ops.size/\bM ρ' (H m) w'/\(∀ k,k < m->ks.getD k 2 % 3=2->(listed.setIfInBounds i true).getD k false=true)/\(m=ops.size\/(ks.getD m 2 % 3=2/\(listed.setIfInBounds i true).getD m false=false)):=by
    intro rY ρ' w' ei
    refine ⟨m,gF,ei,λk h1 h2=>by rw [pC k,tY k h1 h2];simp,?_⟩
    rcases FP with h1|⟨h1,h2⟩
    .exact .inl h1
    .refine .inr ⟨h1,?_⟩
     have:m≠i:=λe=>by rw [e] at h1;exact rY h1
     rw [pC m,h2]
     simp [this]
   have jQ:∀ (ρ':ct),(∀ A L,ρ' A=some L->ρ A=some L\/((H i).size<=A/\A < (H (i+1)).size)) ->
    ∀ A L,ρ' A=some L->ρ0 A=some L\/∃ j,j < ops.size/\(listed.setIfInBounds i true).getD j false=true/\(H j).size<=A/\A < (H (j+1)).size:=by
    intro ρ' wD A L hA
    rcases wD A L hA with h1|h1
    .rcases qW A L h1 with h2|⟨j,h2,h3,h4⟩
     .exact .inl h2
     .exact .inr ⟨j,h2,by rw [pC j,h3];simp,h4⟩
    .exact .inr ⟨i,IX,by rw [pC i];simp,h1⟩
   have oB:∀ A,(H i).size<=A->A < (H (i+1)).size->ρ A=none:=by
    intro A h1 h2
    cases hA:ρ A with
    |none=>rfl
    |some L =>
     exfalso
     rcases qW A L hA with h3|⟨j,h3,h4,h5,h6⟩
     .have h7:=(de 0 i (by omega) (by omega)).size
      have h8:=(de (i+1) ops.size (by omega) (aQ _)).size
      rw [CT] at h7
      rw [yF] at h8
      rw [IJ A (by omega) (by omega)] at h3
      cases h3
     .have tX:j≠i:=λe=>by subst e;rw [FG] at h4;cases h4
      rcases mM j i with bc|tb
      .have:=(de (j+1) i (by omega) (by omega)).size
       omega
      .have:=(de (i+1) j (by omega) (by omega)).size
       omega
   unfold wpOpIn
   simp only [ho]
   rw [zpy kR,JO]
   rcases pM i o ho with ⟨gA,h2,lX,MX,_,hk⟩|⟨gA,hv,MX,_,hk⟩
   .rw [aB gA]
    have r5:kb ρ o:=(df o (by simpa using Array.mem_of_getElem? ho)).mono dI.grow
    have hG:=hG0.mono dI.grow
    have yO:∀ hx,iq P T C (eS e0 dst V (λk=>listed.getD k false) ops.size) o hx=iq P T C (E i) o hx:=λhx=>zop hx Jn
    by_cases hb:rG T o=true
    .rw [zjv hb] at hk
     have Db:=(Vh hb lX).2 (H m)
     have je:ks.getD i 2 % 3≠2:=by omega
     have wg:=Gb (h':=H m) hT hC hG ff kR r5 (λA h1 h2=>by omega) (by rw [yO];exact Db)
     refine wg.wp (F5 lX) λρ' u w' f1 s1 v1=>?_
     have gX:∀ A L,ρ' A=some L->ρ A=some L:=by
      intro A L hA
      cases hρ:ρ A with
      |some L1=>have:=f1.grow A L1 hρ;rw [hA] at this;exact this.symm
      |none=>have:=f1.fresh A L hA hρ;omega
     refine ih _ ρ' _ w' vM pF lV (pH ρ' u f1.grow v1) (pG u) (mn je ρ' w' s1) (jQ ρ' λA L hA=>.inl (gX A L hA)) ?_
     have k1:=de m ops.size gF (aQ _)
     have k2:=de 0 m (by omega) gF
     rw [yF] at k1
     rw [CT] at k2
     exact dI.step f1 k1.low k1.size k2.size
    .have kI:=de i ops.size (by omega) (aQ _)
     have Ny:=de (i+1) ops.size (by omega) (aQ _)
     have Nx:=de 0 i (by omega) (by omega)
     rw [yF] at kI Ny
     rw [CT] at Nx
     have DP:(H (i+1)).size=h2.size:=by rw [MX]
     have rZ:h'.low<=h2.low:=by
      have h3:=Ny.low
      rw [MX] at h3
      exact dZ h3 (G6 _ _)
     have vC:∀ A,(H (i+1)).get A=h2.get A:=λA=>by rw [MX];rfl
     by_cases fC:(H i).size<=h2.low
     ./- it turns nothing that is there -/
      obtain ⟨pJ,rY,vJ⟩:=VK (T:=T) (e:=E i) hb fC
      rw [<- hk] at pJ rY vJ
      have tf:i < m:=by
       rcases FP with h3|⟨h3,h4⟩
       .omega
       .rcases mM i m with h5|h5
        .exact h5
        .exfalso
         have aL:m≠i:=λe=>by rw [e] at h3;exact pJ h3
         obtain ⟨om,Jl⟩:=fS m (by omega)
         exact rY (ON h3 (ou m om (by omega) Jl h4).2)
      have r8:∀ k,i<=k->k < m->ks.getD k 2 % 3=2->5<=ks.getD k 2/\((ks.getD i 2 % 3=0/\3<=ks.getD i 2/\ks.getD i 2+2≠ks.getD k 2)\/(ks.getD i 2 % 3=1/\3<=ks.getD i 2/\ks.getD k 2+2<=ks.getD i 2)):=by
       intro k h3 h4 h5
       have aL:k≠i:=λe=>by rw [e] at h5;exact pJ h5
       have h6:=tY k h4 h5
       obtain ⟨ok,jf⟩:=fS k (by omega)
       rcases zv1 h5 (iC k ok (by omega) jf h6).2 with h8|h8
       .exact (rY h8).elim
       .exact h8
      have Iz:∀ (B j:Nat),i<=j->j<=m->B < (H j).size->(∀ k,i<=k->k < m->ks.getD k 2 % 3=2->5+3*B≠ks.getD k 2)->(H m).get B=(H j).get B:=by
       intro B j h3 h4 h5 h6
       have hx:∀ d,j+d<=m->(H (j+d)).get B=(H j).get B:=by
        intro d
        induction d with
        |zero=>intro _;rfl
        |succ d JT =>
         intro hd
         obtain ⟨ok,jf⟩:=fS (j+d) (by omega)
         have h7:=JT (by omega)
         have h8:B < (H (j+d)).size:=dt h5 (de j (j+d) (by omega) (by omega)).size
         rw [<- h7]
         by_cases h9:ks.getD (j+d) 2 % 3=2
         .exact (pM (j+d) ok jf).other h9 (r8 (j+d) (by omega) (by omega) h9).1 B (h6 (j+d) (by omega) (by omega) h9)
         .exact (pM (j+d) ok jf).same hg h9 B h8
       have h7:=hx (m - j) (by omega)
       rwa [show j+(m - j)=m by omega] at h7
      by_cases nD:∃ t a x,o.op=.load t a/\bE (E i) a=.pointer (some x)/\ks.getD i 2=3+3*x.block
      .obtain ⟨t,a',x,aP,hx,hkv⟩:=nD
       have Db:iq P T C (E i) o (H m)=some (V i,H m):=by
        unfold iq at lX ⊢
        simp only [aP,hx,cn,cR] at lX ⊢
        obtain ⟨r,hr,h3,_⟩:=lX
        refine ⟨r,?_,h3,trivial⟩
        have bc:x.block < (H i).size:=zx6 hr
        rw [zqx (h:={ H i with low:=(H i).size }) (by rw [Heap.ly];exact Iz x.block i (aQ _) (by omega) bc (λk h4 h5 h6=>by have:=(r8 k h4 h5 h6).2;omega))]
        exact hr
       have wg:=Gb (h':=H m) hT hC hG ff kR r5 (λA h1 h2=>by omega) (by rw [yO];exact Db)
       refine wg.wp (F5 lX) λρ' u w' f1 s1 v1=>?_
       have gX:∀ A L,ρ' A=some L->ρ A=some L:=by
        intro A L hA
        cases hρ:ρ A with
        |some L1=>have:=f1.grow A L1 hρ;rw [hA] at this;exact this.symm
        |none=>have:=f1.fresh A L hA hρ;omega
       refine ih _ ρ' _ w' vM pF lV (pH ρ' u f1.grow v1) (pG u) (mn pJ ρ' w' s1) (jQ ρ' λA L hA=>.inl (gX A L hA)) ?_
       have k1:=de m ops.size gF (aQ _)
       have k2:=de 0 m (by omega) gF
       rw [yF] at k1
       rw [CT] at k2
       exact dI.step f1 k1.low k1.size k2.size
      have Tk:∃ hx CM:Heap,hx.size=(H i).size/\bM ρ hx w/\iq P T C (E i) o hx=some (V i,CM)/\CM.size=h2.size/\h'.low<=CM.low/\(H i).size<=CM.low/\∀ A,(H i).size<=A->A < h2.size->(H m).get A=CM.get A:=by
       rcases vJ with h3|h3|⟨⟨t,n,ps,aP⟩,hkv⟩
       .have jU:∀ k,i<=k->k < m->ks.getD k 2 % 3≠2:=by
         intro k h4 h5 h6
         have:=(r8 k h4 h5 h6).2
         omega
        have hgI:∀ A,A < (H i).size->(H m).get A=(H i).get A:=gX i m (by omega) gF jU
        have Dj:∀ A,A < (H (i+1)).size->(H m).get A=(H (i+1)).get A:=gX (i+1) m (by omega) gF (λk h3 h4=>jU k (by omega) h4)
        refine ⟨{ H i with low:=(H i).size },h2,rfl,?_,lX,rfl,rZ,fC,λA h4 h5=>by rw [Dj A (by omega),vC A]⟩
        refine ff.swap λA L hA=>?_
        rw [Heap.ly]
        rcases mM A (H i).size with h3|h3
        .exact .inl (hgI A h3).symm
        .right
         unfold Heap.get
         rw [aA (by omega)]
       .exact (nD h3).elim
       .have aiy:=(de i m (by omega) gF).size
        have Dc:=lX
        unfold iq at Dc
        simp only [aP] at Dc
        obtain ⟨b,ic,Sn⟩:=zi9 (h1:=(⟨(H i).size,(H m).tr,(H i).size⟩:Heap)) Dc rfl
        have vL:h2.low=(H i).size:=by rw [ic];rfl
        have wq:h2.size=(H i).size+1:=by rw [ic];rfl
        refine ⟨⟨(H i).size,(H m).tr,(H i).size⟩,_,rfl,?_,by unfold iq;simp only [aP];exact Sn,by rw [wq];rfl,by rw [vL] at rZ;exact rZ,aQ _,λA h4 h5=>?_⟩
        .refine ff.swap λA L hA=>?_
         unfold Heap.get
         rcases mM A (H i).size with h3|h3
         .left
          rw [aB h3,aB (by omega)]
         .right
          rw [aA (show ¬ A < (H i).size by omega)]
        .have hA:A=(H i).size:=by omega
         subst hA
         rw [Iz _ (i+1) (by omega) (by omega) (by rw [DP,wq];omega) (λk h6 h7 h8=>by have:=(r8 k h6 h7 h8).2;omega),vC,ic,Heap.bH,Heap.bH,aB rfl,aB rfl]
      obtain ⟨hx,CM,nG,wi,SF,h2s,vL,SP,hN⟩:=Tk
      have wg:=Gb (h':=CM) hT hC hG wi kR r5 (λA h3 h4=>oB A (by omega) (by omega)) (by rw [yO];exact SF)
      refine wg.wp (F5 lX) λρ' u w' f1 s1 v1=>?_
      have mb:∀ A L,ρ' A=some L->ρ A=none->(H i).size<=A/\A < h2.size/\w.heap.size<=L.b:=by
       intro A L hA hn
       obtain ⟨h3,h4,h5⟩:=f1.fresh A L hA hn
       refine ⟨by omega,by omega,?_⟩
       rcases h5 with h5|⟨A0,L0,h6,_,h7,h8⟩
       .exact h5
       .rw [oB A0 (by omega) (by omega)] at h6
        cases h6
      have DW:∀ b,b < w.heap.size->w'.heap[b]? = w.heap[b]? := by
       intro b lB
       refine f1.fN b lB λA L hA _=>?_
       rcases mM A (H i).size with h3|h3
       .left;omega
       .right
        rcases mM A h2.size with h4|h4
        .rw [oB A h3 (by omega)] at hA;cases hA
        .omega
      have wh:bM ρ' (H m) w':=by
       refine ⟨λA L hA=>?_,λA A' L L' hA fw aL tW=>?_⟩
       .cases hρ:ρ A with
        |none =>
         obtain ⟨h3,h4,_⟩:=mb A L hA hρ
         rw [hN A h3 h4]
         exact s1.lx A L hA
        |some L1 =>
         have e:L1=L:=by have:=f1.grow A L1 hρ;rw [hA] at this;exact (Option.some.inj this).symm
         subst e
         exact (ff.lx A L1 hρ).fN f1.grow f1.size λ_=>DW L1.b (ff.lt hρ)
       .cases hρ:ρ A with
        |none =>
         obtain ⟨h3,h4,h5⟩:=mb A L hA hρ
         cases wD:ρ A' with
         |none =>
          obtain ⟨h6,h7,h8⟩:=mb A' L' fw wD
          have hx:=s1.inj A A' L L' hA fw aL tW
          unfold live m7 at hx ⊢
          rw [hN A h3 h4,hN A' h6 h7]
          exact hx
         |some L1 =>
          have e:L1=L':=by have:=f1.grow A' L1 wD;rw [fw] at this;exact (Option.some.inj this).symm
          subst e
          have:=ff.lt wD
          omega
        |some L1 =>
         have e:L1=L:=by have:=f1.grow A L1 hρ;rw [hA] at this;exact (Option.some.inj this).symm
         subst e
         cases wD:ρ A' with
         |none =>
          obtain ⟨h6,h7,h8⟩:=mb A' L' fw wD
          have:=ff.lt hρ
          omega
         |some L2 =>
          have e:L2=L':=by have:=f1.grow A' L2 wD;rw [fw] at this;exact (Option.some.inj this).symm
          subst e
          exact ff.inj A A' L1 L2 hρ wD aL tW
      refine ih _ ρ' _ w' vM pF lV (pH ρ' u f1.grow v1) (pG u) ?_ (jQ ρ' λA L hA=>?_) (dI.step f1 vL (by have:=Ny.size;omega) (by rw [nG];exact Nx.size))
      .refine ⟨m,gF,wh,λk h3 h4=>by rw [pC k,tY k h3 h4];simp,?_⟩
       rcases FP with h3|⟨h3,h4⟩
       .exact .inl h3
       .refine .inr ⟨h3,?_⟩
        rw [pC m,h4,show decide (m=i)=false by simp;omega]
        rfl
      .cases hρ:ρ A with
       |none=>right;have:=mb A L hA hρ;omega
       |some L1=>left;have:=f1.grow A L1 hρ;rw [hA] at this;rw [this]
     .obtain ⟨pJ,_⟩:=Od (T:=T) (e:=E i) hb fC
      rw [<- hk] at pJ
      have Nn:m=i:=by
       rcases G2 m i with h3|h3|h3
       .exfalso
        rcases FP with h4|⟨h4,h5⟩
        .omega
        .obtain ⟨om,Jl⟩:=fS m (by omega)
         have:=ON h4 (ou m om h3 Jl h5).2
         omega
       .exact h3
       .have:=tY i h3 pJ
        rw [FG] at this
        cases this
      subst Nn
      have wi:bM ρ { H m with low:=(H m).size } w:=ff.swap λA L _=>.inl rfl
      have wg:=Gb (h':=h2) hT hC hG wi kR r5 (λA h3 h4=>oB A h3 (by omega)) (by rw [yO];exact lX)
      refine wg.wp (F5 lX) λρ' u w' f1 s1 v1=>?_
      have nC:∃ m',m+1<=m'/\m'<=ops.size/\(∀ k,m+1<=k->k < m'->ks.getD k 2 % 3≠2)/\(m'=ops.size\/ks.getD m' 2 % 3=2):=by
       have hx:∀ d,d<=ops.size - (m+1)->(∀ k,m+1<=k->k < m+1+d->ks.getD k 2 % 3≠2)\/∃ m',m+1<=m'/\m'<=ops.size/\(∀ k,m+1<=k->k < m'->ks.getD k 2 % 3≠2)/\(m'=ops.size\/ks.getD m' 2 % 3=2):=by
        intro d
        induction d with
        |zero=>intro _;left;intro k h3 h4;omega
        |succ d JT =>
         intro hd
         rcases JT (by omega) with h3|h3
         .by_cases h4:ks.getD (m+1+d) 2 % 3=2
          .exact .inr ⟨m+1+d,by omega,by omega,h3,.inr h4⟩
          .left
           intro k h5 h6
           by_cases h7:k=m+1+d
           .rw [h7];exact h4
           .exact h3 k h5 (by omega)
         .exact .inr h3
       rcases hx (ops.size - (m+1)) (aQ _) with h3|h3
       .exact ⟨ops.size,by omega,aQ _,λk h4 h5=>h3 k h4 (by omega),.inl rfl⟩
       .exact h3
      obtain ⟨m',Th,Dt,Jc,Ti⟩:=nC
      have Dj:∀ A,A < (H (m+1)).size->(H m').get A=(H (m+1)).get A:=gX (m+1) m' Th Dt Jc
      have yK:∀ A L,ρ A=some L->A < h2.size\/(ρ0 A=some L/\h'.size<=A):=by
       intro A L hA
       rcases qW A L hA with h3|⟨j,h3,h4,h5,h6⟩
       .rcases mM A h2.size with h7|h7
        .exact .inl h7
        .rcases mM A h'.size with h8|h8
         .have h9:=Nx.size
          have h10:=(de m (m+1) (by omega) (by omega)).size
          rw [IJ A (by omega) h8] at h3
          cases h3
         .exact .inr ⟨h3,h8⟩
       .left
        rcases mM j (m+1) with h7|h7
        .have:=(de (j+1) (m+1) (by omega) (by omega)).size
         omega
        .exfalso
         obtain ⟨oj,q9⟩:=fS j h3
         have h9:ks.getD j 2=0:=ON pJ (iC j oj (by omega) q9 h4).2
         have:=((pM j oj q9).still h9).1
         omega
      have wh:bM ρ' (H m') w':=by
       refine s1.swap λA L hA=>?_
       have fw:A < h2.size\/h'.size<=A:=by
        cases hρ:ρ A with
        |none=>left;exact (f1.fresh A L hA hρ).2.1
        |some L1 =>
         rcases yK A L1 hρ with h3|h3
         .exact .inl h3
         .exact .inr h3.2
       rcases fw with h3|h3
       .left
        rw [Dj A (by omega),vC A]
       .right
        have h4:=(de m' ops.size Dt (aQ _)).size
        rw [yF] at h4
        unfold Heap.get
        rw [aA (by omega)]
      refine ih _ ρ' _ w' vM pF lV (pH ρ' u f1.grow v1) (pG u) ⟨m',Dt,wh,?_,?_⟩ (jQ ρ' λA L hA=>?_) (dI.step f1 rZ (by have:=Ny.size;omega) Nx.size)
      .intro k h3 h4
       rw [pC k]
       rcases mM k (m+1) with h5|h5
       .by_cases h6:k=m
        .simp [h6]
        .rw [tY k (by omega) h4];simp
       .exact (Jc k h5 h3 h4).elim
      .rcases Ti with h3|h3
       .exact .inl h3
       .rcases mM m' ops.size with h4|h4
        .refine .inr ⟨h3,?_⟩
         rw [pC m',show decide (m'=m)=false by simp;omega,Bool.false_or]
         cases lB:listed.getD m' false with
         |false=>rfl
         |true =>
          exfalso
          obtain ⟨om,Jl⟩:=fS m' h4
          have:=ON pJ (iC m' om (by omega) Jl lB).2
          omega
        .exact .inl (by omega)
      .cases hρ:ρ A with
       |none =>
        right
        obtain ⟨h3,h4,_⟩:=f1.fresh A L hA hρ
        have uY:(H m).size<=A:=h3
        omega
       |some L1=>left;have:=f1.grow A L1 hρ;rw [hA] at this;rw [this]
   .rw [aA (by rw [gA];simp)]
    refine ⟨λ_ _=>trivial,?_⟩
    have hu:VR ρ (V i) undef:=by rw [hv];exact .undef ρ
    exact ih _ ρ _ w vM pF lV (pH ρ undef (λ_ _ h=>h) hu) (pG undef) (mn (by omega) ρ w ff) (jQ ρ λA L hA=>.inl hA) dI
 have rY:=de 0 ops.size (by omega) (aQ _)
 rw [CT,yF] at rY
 have qX:∀ k,(Array.replicate ops.size false).getD k false=false:=by
  intro k
  rcases mM k ops.size with h1|h1 <;> simp [h1]
 have pI:∀ k,eS e0 dst V (λk=>(Array.replicate ops.size false).getD k false) k=e0:=by
  intro k
  induction k with
  |zero=>rfl
  |succ k ih=>rw [GW (S:=λk=>(Array.replicate ops.size false).getD k false) (qX k),ih]
 refine main ops.size _ ρ0 a0 _ (by simp) (by have:=List.countP_le_length (p:=λk => !(Array.replicate ops.size false).getD k false) (l:=List.range ops.size);simpa using this) ?_ ?_ rfl ?_ ?_ ?_
 .intro j o _ hj
  rw [qX j] at hj
  cases hj
 .rw [pI];exact vx
 ./- the first that may turn something -/
  have De:∃ m,m<=ops.size/\(∀ k,k < m->ks.getD k 2 % 3≠2)/\(m=ops.size\/ks.getD m 2 % 3=2):=by
   have hx:∀ d,d<=ops.size->(∀ k,k < d->ks.getD k 2 % 3≠2)\/∃ m,m<=ops.size/\(∀ k,k < m->ks.getD k 2 % 3≠2)/\(m=ops.size\/ks.getD m 2 % 3=2):=by
    intro d
    induction d with
    |zero=>intro _;left;intro k h4;omega
    |succ d JT =>
     intro hd
     rcases JT (by omega) with h3|h3
     .by_cases h4:ks.getD d 2 % 3=2
      .exact .inr ⟨d,by omega,h3,.inr h4⟩
      .left
       intro k h6
       by_cases h7:k=d
       .rw [h7];exact h4
       .exact h3 k (by omega)
     .exact .inr h3
   rcases hx ops.size (aQ _) with h3|h3
   .exact ⟨ops.size,aQ _,h3,.inl rfl⟩
   .exact h3
  obtain ⟨m,gF,ff,tY⟩:=De
  refine ⟨m,gF,?_,λk h1 h2=>(ff k h1 h2).elim,?_⟩
  .have jo:bM ρ0 h0 { w0 with drawn:=w0.drawn+1 }:=hs0.same rfl
   refine jo.swap λA L hA=>?_
   rcases mM A h0.size with h1|h1
   .left
    have:=gX 0 m (by omega) gF (λk _ h3=>ff k h3) A (by rw [CT];exact h1)
    rw [this,CT]
   .rcases mM A h'.size with h2|h2
    .rw [IJ A h1 h2] at hA;cases hA
    .right
     have h4:=(de m ops.size gF (aQ _)).size
     rw [yF] at h4
     unfold Heap.get
     rw [aA (by omega)]
  .rcases tY with h1|h1
   .exact .inl h1
   .exact .inr ⟨h1,qX m⟩
 .intro A L hA;exact .inl hA
 .exact ⟨λ_ _ h=>h,λA L h1 h2=>(by rw [h1] at h2;cases h2),rfl,rfl,rfl,aQ _,rY.size,rY.low,λ_ _ _=>rfl,rY.get⟩
end
end Go.Am
namespace Go.Am
open Go.RowKit
variable {C:Fn->List ai->Heap->Option (ai × Heap)} {v:ai} {h h':Heap} {E:Code->Env->Heap->Option (Ex × Env × Heap)} {fn:Func} {ρ:ct}

abbrev Ov:=FuncId->Option (List ai->Heap->Option (ai × Heap))

def iJ:Env->List Tmp->List ai->Env
 |e,t::ts,v::vs=>iJ (e.set t v) ts vs
 |e,_,_=>e
def BN (A:Nat) (jump:Option Code) (h:Heap):Option (ai × Heap) :=
 match h.get A with
 |some (.loop env ps assign body _ _)=>some (.bool jump.isNone,h.set A (.loop env ps assign body (if jump.isNone then .ready else .done) jump))
 |_=>none
def B9 (E:Code->Env->Heap->Option (Ex × Env × Heap)) (A:Nat) (args:List ai) (h:Heap):Option (ai × Heap) :=
 match h.get A with
 |some (.loop env ps assign body _ _) =>
  if args.length=ps.length then
   match E assign (iJ env ps args) h with
   |some (.normal,e1,h1)=>match h1.get A with
    |some (.loop qS Ed nY uP .ready jZ) =>
     (match E body e1 (h1.set A (.loop qS Ed nY uP .busy jZ)) with
     |some (.normal,_,h2)=>BN A none h2
     |some (.ret,_,h2)=>BN A (some .ret) h2
     |some (.exit id,_,h2)=>BN A (some (.exit id)) h2
     |none=>none)
    |_=>none
   |_=>none
  else none
 |_=>none

def Xb (d:Oper):Option Tmp:=match d.op with
 | .defer ⟨.value (.tmp t),args,_⟩=>if args.isEmpty && d.guard.isNone && d.dst.isNone then some t else none
 |_=>none
def zY:Code->Option (List Code × Oper × Tmp × Code)
 | .seq (.region id ops false) b=>(match ops.toList with
  | [m,d]=>(match Xb d with
   |some t=>if m.guard.isNone then some ([],m,t,b) else (zY b).map λ(pre,m,t,r)=>(.region id ops false::pre,m,t,r)
   |none=>(zY b).map λ(pre,m,t,r)=>(.region id ops false::pre,m,t,r))
  |_=>(zY b).map λ(pre,m,t,r)=>(.region id ops false::pre,m,t,r))
 | .seq a b=>(zY b).map λ(pre,m,t,r)=>(a::pre,m,t,r)
 |_=>none
def tD (E:Code->Env->Heap->Option (Ex × Env × Heap)):List Code->Env->Heap->Option (Env × Heap)
 | [],e,h=>some (e,h)
 |c::cs,e,h=>match E c e h with
  |some (.normal,e',h')=>tD E cs e' h'
  |_=>none
section
variable (P:Program) (T:bN)
def tI (E:Code->Env->Heap->Option (Ex × Env × Heap)) (fn:Func) (g:ai) (e3:Env) (h3:Heap):Option (ai × Heap) :=
 match g with
 | .func (.func g) fi ca=>(T.fn g).bind λfg=>fg.body.bind λcg=>if mw cg then
  (match E cg ((fi.toList++ca.toList)++List.replicate (fg.ntmps - (fi.toList++ca.toList).length) undef) h3 with
  |some (.ret,e4,h4)=>(nc T fg e4 h4).bind λ_=>(nc T fn e3 h4).map λv=>(v,h4)
  |some (.normal,e4,h4)=>(nc T fg e4 h4).bind λ_=>(nc T fn e3 h4).map λv=>(v,h4)
  |_=>none)
  else none
 |_=>none
def B5 (E:Code->Env->Heap->Option (Ex × Env × Heap)) (C:Fn->List ai->Heap->Option (ai × Heap)) (fn:Func) (c:Code) (e:Env) (h:Heap):Option (ai × Heap) :=
 (zY c).bind λ(pre,m,t,rest)=>if pre.all mw && mw rest then
  (tD E pre e h).bind λ(e1,h1)=>(iq P T C e1 m h1).bind λ(v,h2) =>
   match E rest (put e1 m.dst v) h2 with
   |some (.ret,e3,h3)=>tI T E fn ((put e1 m.dst v).get t) e3 h3
   |some (.normal,e3,h3)=>tI T E fn ((put e1 m.dst v).get t) e3 h3
   |_=>none
 else none
end

def call (P:Program) (T:bN) (ov:Ov):Nat->Fn->List ai->Heap->Option (ai × Heap)
 |0,_,_,_=>none
 |n+1,.func f,args,h =>
  match ov f with
  |some g=>g args h
  |none =>
   (T.fn f).bind λfn=>fn.body.bind λc =>
   if T.HZ f then B5 P T (dL P T (call P T ov n) (pg P T (call P T ov n)) none n) (call P T ov n) fn c (args++List.replicate (fn.ntmps - args.length) undef) h else
   match dL P T (call P T ov n) (pg P T (call P T ov n)) none n c (args++List.replicate (fn.ntmps - args.length) undef) h with
   |some (.ret,e,h')=>(nc T fn e h').map λv=>(v,h')
   |some (.normal,e,h')=>(nc T fn e h').map λv=>(v,h')
   |_=>none
 |n+1,.yield A,args,h=>B9 (dL P T (call P T ov n) (pg P T (call P T ov n)) (some A) n) A args h
 |_,_,_,_=>none

def Ax (P:Program) (gs:List Nat) (ov:Ov):Prop :=
 ∀ f g,ov f=some g->∀ args h v h',g args h=some (v,h')->bq h h'/\∀ ρ w (aK:Array ai),cU gs ρ->bM ρ h w->fj ρ h h'->cz ρ args aK.toList->XA P ρ h h' w v f aK

section
variable {P:Program} {T:bN} {ov:Ov}

theorem zkJ (hg:sC C) {ops:Array Oper} (l:List Oper) (e e':Env) (h h':Heap) (ks:List Nat) (aj:qv P T C ops l e h=some (ks,e',h')):bq h h':=by
 induction l generalizing e h ks with
 |nil=>simp only [qv,dR,cR] at aj;obtain ⟨_,_,rfl⟩:=aj;exact .refl _
 |cons o l ih =>
  simp only [qv] at aj
  split at aj
  .split at aj
   .rename_i v h2 hr
    simp only [cn,Prod.exists,cR] at aj
    obtain ⟨ez,x1,x2,cI,_,rfl,rfl⟩:=aj
    have hk:=Ep hg hr
    refine bq.trans ?_ (ih _ _ _ cI)
    exact ⟨hk.size,xj _ _,λA h3 h4=>hk.get A h3 (dt h4 (G6 _ _))⟩
   .cases aj
  .simp only [cn,Prod.exists,cR] at aj
   obtain ⟨ez,x1,x2,cI,_,rfl,rfl⟩:=aj
   exact ih _ _ _ cI

theorem Et (hg:sC C):Xk (pg P T C):=by
 intro ops e h e' h' aj
 unfold pg at aj
 split at aj
 .rename_i hr
  split at aj
  .cases aj;exact zkJ hg _ _ _ _ _ _ hr
  .cases aj
 .cases aj

theorem NO {A:Nat} {jump:Option Code} (aj:BN A jump h=some (v,h')):bq h h':=by
 unfold BN at aj
 split at aj
 .rename_i hg;cases aj;exact .set _ (Heap.ao hg)
 .cases aj
theorem zo9 (hE:∀ c e h x e' h',E c e h=some (x,e',h')->bq h h') {A:Nat} {args:List ai} (aj:B9 E A args h=some (v,h')):bq h h':=by
 unfold B9 at aj
 split at aj
 .split at aj
  .split at aj
   .rename_i h1 r6
    split at aj
    .rename_i ta
     have hk:∀ b,bq h (h1.set A b):=λb=>(hE _ _ _ _ _ _ r6).trans (bq.set b (Heap.ao ta))
     split at aj
     .rename_i fo;exact ((hk _).trans (hE _ _ _ _ _ _ fo)).trans (NO aj)
     .rename_i fo;exact ((hk _).trans (hE _ _ _ _ _ _ fo)).trans (NO aj)
     .rename_i fo;exact ((hk _).trans (hE _ _ _ _ _ _ fo)).trans (NO aj)
     .cases aj
    .cases aj
   .cases aj
  .cases aj
 .cases aj

theorem NZ {E:Code->Env->Heap->Option (Ex × Env × Heap)} (hE:∀ c e h x e' h',E c e h=some (x,e',h')->bq h h'):∀ (pre:List Code) (e e':Env) (h h':Heap),tD E pre e h=some (e',h')->bq h h'
 | [],e,e',h,h',aj=>by simp only [tD,dR,cR] at aj;obtain ⟨_,rfl⟩:=aj;exact .refl _
 |c::cs,e,e',h,h',aj=>by
  simp only [tD] at aj
  split at aj
  .rename_i hr
   exact (hE _ _ _ _ _ _ hr).trans (NZ hE cs _ _ _ _ aj)
  .cases aj
theorem Er (hE:∀ c e h x e' h',E c e h=some (x,e',h')->bq h h') {g:ai} {e3:Env} {h3:Heap} (aj:tI T E fn g e3 h3=some (v,h')):bq h3 h':=by
 unfold tI at aj
 split at aj
 .simp only [cy] at aj
  obtain ⟨fg,_,cg,_,aj⟩:=aj
  split at aj
  .split at aj
   .rename_i hr
    simp only [cy,cn,cR] at aj
    obtain ⟨_,_,_,_,_,rfl⟩:=aj
    exact hE _ _ _ _ _ _ hr
   .rename_i hr
    simp only [cy,cn,cR] at aj
    obtain ⟨_,_,_,_,_,rfl⟩:=aj
    exact hE _ _ _ _ _ _ hr
   .cases aj
  .cases aj
 .cases aj
theorem zoe (hC:sC C) (hE:∀ c e h x e' h',E c e h=some (x,e',h')->bq h h') {c:Code} {e:Env} (aj:B5 P T E C fn c e h=some (v,h')):bq h h':=by
 unfold B5 at aj
 simp only [cy,Prod.exists] at aj
 obtain ⟨pre,m,t,rest,_,aj⟩:=aj
 split at aj
 .simp only [cy,Prod.exists] at aj
  obtain ⟨e1,h1,hp,v1,h2,ho,aj⟩:=aj
  split at aj
  .rename_i hr
   exact (((NZ hE _ _ _ _ _ hp).trans (Ep hC ho)).trans (hE _ _ _ _ _ _ hr)).trans (Er hE aj)
  .rename_i hr
   exact (((NZ hE _ _ _ _ _ hp).trans (Ep hC ho)).trans (hE _ _ _ _ _ _ hr)).trans (Er hE aj)
  .cases aj
 .cases aj
theorem zle {gs:List Nat} (jg:Ax P gs ov):∀ n,sC (call P T ov n)
 |0=>by intro f args h v h' aj;simp [call] at aj
 |n+1=>by
  intro f args h v h' aj
  have ih:=zle jg n
  cases f with
  |func f =>
   simp only [call] at aj
   split at aj
   .rename_i g hg
    exact (jg f g hg args h v h' aj).1
   .simp only [cy] at aj
    obtain ⟨fn,_,c,_,aj⟩:=aj
    split at aj
    .exact zoe ih (λc e h x e' h' hr=>Es ih (Et ih) _ _ _ _ _ _ _ _ hr) aj
    split at aj
    .rename_i hr
     simp only [cn,cR] at aj
     obtain ⟨_,_,_,rfl⟩:=aj
     exact Es ih (Et ih) _ _ _ _ _ _ _ _ hr
    .rename_i hr
     simp only [cn,cR] at aj
     obtain ⟨_,_,_,rfl⟩:=aj
     exact Es ih (Et ih) _ _ _ _ _ _ _ _ hr
    .cases aj
  |yield A =>
   simp only [call] at aj
   exact zo9 (λc e h x e' h' hr=>Es ih (Et ih) _ _ _ _ _ _ _ _ hr) aj
  |_=>simp [call] at aj

theorem cd.enter {args:List ai} {aK:Array ai} (hv:cz ρ args aK.toList) (n:Nat):cd ρ (args++List.replicate (n - args.length) undef) (aK++Array.replicate (n - aK.size) undef):=by
 have hl:args.length=aK.size:=by simpa using hv.1
 refine ⟨by simp [hl],λi=>?_⟩
 rw [Env.get_eq]
 rcases mM i args.length with h1|h1
 .rw [jC h1]
  have hx:args[i]? = some args[i]:=gG h1
  obtain ⟨y,hy,cN⟩:=hv.get hx
  have h2:i < aK.size:=by omega
  have e1:(aK++Array.replicate (n - aK.size) undef).getD i undef=y:=by
   have h3:aK[i]? = some y:=by simpa using hy
   simp [Array.getElem?_append_left h2,h3]
  rw [e1,hx]
  exact cN
 .rw [lj h1]
  have e1:(aK++Array.replicate (n - aK.size) undef).getD i undef=undef:=by
   have h3:aK.size<=i:=by omega
   simp only [Array.getD_eq_getD_getElem?,Array.getElem?_append_right h3]
   by_cases h4:i - aK.size < n - aK.size
   .simp [h4]
   .simp [h4]
  rw [e1]
  by_cases h4:i - args.length < n - args.length
  .simp [h4];exact .undef ρ
  .simp [h4];exact .undef ρ

theorem cd.set {ρ:ct} {e:Env} {tmps:Array ai} (he:cd ρ e tmps) {v u:ai} (hv:VR ρ v u) (d:Nat):cd ρ (Env.set e d v) (tmps.setIfInBounds d u):=by
 have:=cd.put (a:={ tmps:=tmps,defers:=[] }) he hv (some d)
 exact this

theorem cd.iJ {ρ:ct}:∀ (ps:List Tmp) (args:List ai) (aK:List ai) (e:Env) (tmps:Array ai),cd ρ e tmps->cz ρ args aK->cd ρ (Am.iJ e ps args) ((ps.zip aK).foldl (λtmps (t,a)=>tmps.setIfInBounds t a) tmps)
 | [],args,aK,e,tmps,he,_=>by cases args <;> exact he
 |t::ps,[],aK,e,tmps,he,hv=>by rw [hv.of_nil];exact he
 |t::ps,v::args,aK,e,tmps,he,hv=>by
  obtain ⟨u,m,rfl,h1,h2⟩:=hv.of_cons
  exact cd.iJ ps args m _ _ (he.set h1 t) h2

theorem zh7 {ρ:ct} {h:Heap} {fn:Func} {tmps:Array ai} {R:Ending->World->Prop} {n0:Nat}:∀ (rs:List Nat) (w:World),rs.Nodup->(∀ r∈rs,n0<=r/\w.heap[r]? = some (.deferred (some []))/\∀ A L,ρ A=some L->L.b≠r)->bM ρ h w ->
 (∀ w',bM ρ h w'->w'.os=w.os->w'.tape=w.tape->w'.output=w.output->w'.heap.size=w.heap.size->(∀ b,(b < n0\/∃ A L,ρ A=some L/\L.b=b)->w'.heap[b]? = w.heap[b]?)->∃ v,(results fn tmps).run P w'=.ok v w'/\R (.returned v) w') ->
 LeavesInM Fence.wide 0 P fn tmps R (rs.map λr=>{ target:=.collected r,args:=#[] }) .returning w
 | [],w,_,_,hs,hR=>hR w hs rfl rfl rfl rfl (λ_ _=>rfl)
 |r::rs,w,Np,aE,hs,hR=>by
  obtain ⟨a1,a2,a3⟩:=aE r (by simp)
  have bc:r < w.heap.size:=(my.1 a2).1
  refine ⟨by simp,.inl ⟨r,_,rfl,run_takeDeferred a2,?_⟩⟩
  obtain ⟨xz,ze⟩:=List.nodup_cons.1 Np
  have dV:(w.putObj r (.deferred none)).heap.size=w.heap.size:=by rw [N1];simp
  refine zh7 (n0:=n0) rs _ ze (λq hq=>?_) ⟨λA L hA=>(hs.lx A L hA).fN (λ_ _ h=>h) (by rw [dV];exact aQ _) (λ_=>NS (a3 A L hA)),hs.inj⟩ λw' fT h1 h2 h3 h4 h5=>?_
  .obtain ⟨b1,b2,b3⟩:=aE q (by simp [hq])
   exact ⟨b1,(NS (λ(e:q=r)=>xz (e ▸ hq))).trans b2,b3⟩
  .refine hR w' fT h1 h2 h3 (h4.trans dV) λb hb=>(h5 b hb).trans (NS λe=>?_)
   subst e
   rcases hb with hb|⟨A,L,hA,hb⟩
   .omega
   .exact a3 A L hA hb

inductive ka (m:Oper) (t:Tmp) (rest:Code):List Code->Code->Prop where
 |here (id:Nat) (ops:Array Oper) (d:Oper) (args:Array Operand) (ia:Array TypeId):ops.toList=[m,d]->d.op=.defer ⟨.value (.tmp t),args,ia⟩->args.isEmpty=true->m.guard=none->d.guard=none->d.dst=none->ka m t rest [] (.seq (.region id ops false) rest)
 |step (a b:Code) (pre:List Code):ka m t rest pre b->ka m t rest (a::pre) (.seq a b)
theorem zog {d:Oper} {t:Tmp} (h:Xb d=some t):∃ args ia,d.op=.defer ⟨.value (.tmp t),args,ia⟩/\args.isEmpty=true/\d.guard=none/\d.dst=none:=by
 unfold Xb at h
 split at h
 .rename_i t' args ia aP
  split at h
  .rename_i hc
   cases h
   simp only [dW,Option.isNone_iff_eq_none] at hc
   exact ⟨args,ia,aP,hc.1.1,hc.1.2,hc.2⟩
  .cases h
 .cases h
theorem zqX:∀ (c:Code) (pre:List Code) (m:Oper) (t:Tmp) (rest:Code),zY c=some (pre,m,t,rest)->ka m t rest pre c:=by
 intro c
 induction c with
 |seq a b _ ji =>
  intro pre m t rest h
  have cH:∀ (a:Code),((zY b).map λ(pre,m,t,r)=>(a::pre,m,t,r))=some (pre,m,t,rest)->ka m t rest pre (.seq a b):=by
   intro a hm
   simp only [cn,Prod.exists,cR] at hm
   obtain ⟨UC,m',t',r',hs,rfl,rfl,rfl,rfl⟩:=hm
   exact .step a b UC (ji _ _ _ _ hs)
  unfold zY at h
  split at h
  .rename_i id ops b' heq
   cases heq
   split at h
   .rename_i m' d zh
    split at h
    .rename_i t' hd
     split at h
     .rename_i hg
      simp only [dR,cR] at h
      obtain ⟨rfl,rfl,rfl,rfl⟩:=h
      obtain ⟨args,ia,h1,h2,h3,h4⟩:=zog hd
      exact .here id ops d args ia zh h1 h2 (by simpa using hg) h3 h4
     .exact cH _ h
    .exact cH _ h
   .exact cH _ h
  .rename_i a' b' _ heq
   cases heq
   exact cH _ h
  .cases h
 |_=>intro pre m t rest h;simp [zY] at h

theorem zof (hT:T.Fits P) {gs:List Nat} (hC:CS P gs C) (hg:sC C) 
 (hE:∀ (n0:Nat) (B:List Deferred) (c:Code) (e:Env) (h:Heap) (x:Ex) (e':Env) (h':Heap) (ρ:ct) (a:Act) (w:World) (Q:Exit->Act->World->Prop),E c e h=some (x,e',h')->cq ρ c->(true=true->mw c=true)->cU gs ρ->bM ρ h w->fj ρ h h'->cd ρ e a.tmps->Marks n0 B true ρ w a.defers->Ft ρ none none->n0<=w.heap.size ->
  (∀ ρ' a' w',Fr ρ ρ' h h' w w'->bM ρ' h' w'->cd ρ' e' a'.tmps->Marks n0 B true ρ' w' a'.defers->Q x.to a' w')->c.wpIn (WR none) 0 P Q a w)
 (xq:∀ c e h x e' h',E c e h=some (x,e',h')->bq h h')
 {c:Code} {e:Env} {w:World} {tmps:Array ai} (tc:∀ g fg cg,T.fn g=some fg->fg.body=some cg->qA gs cg=true) (df:cq ρ c) (hG:cU gs ρ) (hs:bM ρ h w) (hf:fj ρ h h') (he:cd ρ e tmps)
 (aj:B5 P T E C fn c e h=some (v,h')) :
 c.wpIn Fence.wide 0 P (bodyPostM Fence.wide 0 P fn λed w'=>∃ ρ' u,ed=.returned u/\Fr ρ ρ' h h' w w'/\bM ρ' h' w'/\VR ρ' v u) { tmps,defers:=[] } w:=by
 have key:∀ (pre:List Code) (m:Oper) (t:Tmp) (rest:Code) (c:Code),ka m t rest pre c->∀ (e:Env) (h1:Heap) (ρ1:ct) (w1:World) (a:Act),pre.all mw=true->mw rest=true->cq ρ1 c->cU gs ρ1->bM ρ1 h1 w1->fj ρ1 h1 h'->cd ρ1 e a.tmps->a.defers=[]->Fr ρ ρ1 h h1 w w1 ->
  ((tD E pre e h1).bind λ(e1,h1)=>(iq P T C e1 m h1).bind λ(v,h2) =>
    match E rest (put e1 m.dst v) h2 with
    |some (.ret,e3,h3)=>tI T E fn ((put e1 m.dst v).get t) e3 h3
    |some (.normal,e3,h3)=>tI T E fn ((put e1 m.dst v).get t) e3 h3
    |_=>none)=some (v,h') ->
  c.wpIn Fence.wide 0 P (bodyPostM Fence.wide 0 P fn λed w'=>∃ ρ' u,ed=.returned u/\Fr ρ ρ' h h' w w'/\bM ρ' h' w'/\VR ρ' v u) a w1:=by
  intro pre m t rest c dq
  induction dq with
  |step a0 b0 ajv _ ih =>
   intro e h1 ρ1 w1 a mg gW df hG hs hf he hd dI aj
   simp only [iy,dW] at mg
   simp only [tD,cy,Prod.exists] at aj
   obtain ⟨e2,h2,hp,aj⟩:=aj
   split at hp
   .rename_i e3 h3 hr
    have pJ:bq h3 h':=by
     obtain ⟨v2,h4,ho,aj⟩:=aj
     have k1:=NZ xq _ _ _ _ _ hp
     have k2:=Ep hg ho
     split at aj
     .rename_i fo;exact ((k1.trans k2).trans (xq _ _ _ _ _ _ fo)).trans (Er xq aj)
     .rename_i fo;exact ((k1.trans k2).trans (xq _ _ _ _ _ _ fo)).trans (Er xq aj)
     .cases aj
    refine wpIn_seq ?_
    refine hE w1.heap.size [] a0 e h1 .normal e3 h3 ρ1 a w1 _ hr df.1 (λ_=>mg.1) hG hs (hf.left pJ.size) he (by rw [hd];exact Marks.nil) trivial (aQ _) λρ2 a2 w2 f2 s2 r2 d2=>?_
    obtain ⟨rs,m1,_,m2,_⟩:=d2
    rw [m2 rfl] at m1
    refine ih e3 h3 ρ2 w2 a2 mg.2 gW (df.2.mono f2.grow) (hG.mono f2.grow) s2 (hf.right f2) r2 (by simpa using m1) (dI.trans f2) ?_
    simp only [cy,Prod.exists]
    exact ⟨e2,h2,hp,aj⟩
   .cases hp
  |here id ops d args ia zh aP ef hmg M7 Sz =>
   intro e h1 ρ1 w1 a _ gW df hG hs hf he hd dI aj
   simp only [tD,cy,Prod.exists,dR,cR] at aj
   obtain ⟨e1,cF,⟨rfl,rfl⟩,v1,h2,ho,aj⟩:=aj
   have kD:bq h2 h':=by
    split at aj
    .rename_i fo;exact (xq _ _ _ _ _ _ fo).trans (Er xq aj)
    .rename_i fo;exact (xq _ _ _ _ _ _ fo).trans (Er xq aj)
    .cases aj
   refine wpIn_seq (wpIn_region_list ?_)
   rw [zh]
   have Tu:kb ρ1 m:=df.1 m (by rw [zh];simp)
   have hwm:Region.wanted m (yielded ops a.tmps)=true:=by simp [Region.wanted,hmg]
   rw [wpListIn,aB hwm]
   have wg:=Gb hT hC hG hs he Tu (hf.left kD.size) ho
   refine wg.wp (rl:=none) (F5 ho) λρ2 u w2 f2 s2 v2=>?_
   have yM:cd ρ2 (put e m.dst v1) (a.put m.dst u).tmps:=(he.mono f2.grow).put v2 m.dst
   have kC:(a.put m.dst u).defers=[]:=by cases m.dst <;> exact hd
   have hwd:Region.wanted d (yielded ops (a.put m.dst u).tmps)=true:=by simp [Region.wanted,M7]
   rw [wpListIn,aB hwd]
   have yR:=yM.2 t
   have Dr:∃ x e3 h3,(x=Ex.ret\/x=.normal)/\E rest (put e m.dst v1) h2=some (x,e3,h3)/\tI T E fn ((put e m.dst v1).get t) e3 h3=some (v,h'):=by
    split at aj
    .rename_i e3 h3 fo;exact ⟨_,e3,h3,.inl rfl,fo,aj⟩
    .rename_i e3 h3 fo;exact ⟨_,e3,h3,.inr rfl,fo,aj⟩
    .cases aj
   obtain ⟨x,e3,h3,hx,fo,eD⟩:=Dr
   unfold tI at eD
   split at eD
   .rename_i g fi ca td
    rw [td] at yR
    generalize Sg:(a.put m.dst u).tmps.getD t undef=ag at yR
    cases yR with
    |func _ q1 q2 q3 q4 =>
     rename_i AK AF
     have xE:cz ρ2 fi.toList AK.toList:=⟨by simpa using q1,λi x y hx hy=>q3 i x y (by simpa using hx) (by simpa using hy)⟩
     have ql:cz ρ2 ca.toList AF.toList:=⟨by simpa using q2,λi x y hx hy=>q4 i x y (by simpa using hx) (by simpa using hy)⟩
     simp only [cy] at eD
     obtain ⟨fg,IL,cg,M5,eD⟩:=eD
     split at eD
     .rename_i mc
      have hae:(a.put m.dst u).eval (.tmp t)=.func (.func g) AK AF:=Sg
      have jV:(execOp (a.put m.dst u).eval d).run P w2=.ok (.defer { target:=.fn (.func g) AF,args:=AK }) w2:=by
       have CV:args=#[]:=by simpa using ef
       simp [execOp,aP,resolve,hae,Deferred.ofValue,CV]
      refine ⟨λfq hq=>trivial,?_⟩
      rw [show Oper.semAt Fence.wide.round (a.put m.dst u).eval d=execOp (a.put m.dst u).eval d from rfl,jV]
      simp only [Oper.uponIn,wpListIn,Sz,kC]
      have pJ:bq h3 h':=Er xq (show tI T E fn (.func (.func g) fi ca) e3 h3=some (v,h') by unfold tI;simp only [IL,dH,M5,mc,if_true];exact eD)
      refine hE w2.heap.size [{ target:=.fn (.func g) AF,args:=AK }] rest _ _ _ _ _ ρ2 _ w2 _ fo (df.2.mono f2.grow) (λ_=>gW) (hG.mono f2.grow) s2 ((hf.right f2).left pJ.size) yM Marks.nil trivial (aQ _) λρ3 a3 w3 f3 s3 r3 d3=>?_
      obtain ⟨rs,m1,_,m2,_⟩:=d3
      rw [m2 rfl] at m1
      have m1':a3.defers=[{ target:=.fn (.func g) AF,args:=AK }]:=by simpa using m1
      have hl:LeavesInM Fence.wide 0 P fn a3.tmps (λed w'=>∃ ρ' u,ed=.returned u/\Fr ρ ρ' h h' w w'/\bM ρ' h' w'/\VR ρ' v u) a3.defers .returning w3:=by
       rw [m1']
       obtain ⟨YX,iD,_⟩:=hT.fn g fg IL
       have fD:¬ fg.name="runtime.NumGoroutine":=by simpa using iD
       refine ⟨by simp,.inr ⟨(λhh=>by cases hh),_,_,g,AK++AF,rfl,?_,λ_ _=>trivial,?_⟩⟩
       .show (callFunc g (AK++AF)).run P w3=_
        simp [callFunc,YX,fD,M5]
       .have gZ:cz ρ3 (fi.toList++ca.toList) (AK++AF).toList:=by
         have:=(xE.append ql).mono f3.grow
         simpa using this
        have heg:=cd.enter gZ fg.ntmps
        have Jv:∃ y e4 h4 vg,(y=Ex.ret\/y=.normal)/\E cg ((fi.toList++ca.toList)++List.replicate (fg.ntmps - (fi.toList++ca.toList).length) undef) h3=some (y,e4,h4)/\nc T fg e4 h4=some vg/\nc T fn e3 h4=some v/\h4=h':=by
         split at eD
         .rename_i e4 h4 Jt
          simp only [cy,cn,cR] at eD
          obtain ⟨vg,JM,v',tt,rfl,rfl⟩:=eD
          exact ⟨_,e4,h4,vg,.inl rfl,Jt,JM,tt,rfl⟩
         .rename_i e4 h4 Jt
          simp only [cy,cn,cR] at eD
          obtain ⟨vg,JM,v',tt,rfl,rfl⟩:=eD
          exact ⟨_,e4,h4,vg,.inr rfl,Jt,JM,tt,rfl⟩
         .cases eD
        obtain ⟨y,e4,h4,vg,hy,Jt,JM,hvf,rfl⟩:=Jv
        refine (callsDIn_of_wp (R:=λed w'=>∃ u,ed=.returned u/\∃ vr,(results fn a3.tmps).run P w'=.ok vr w'/\∃ ρ' u',Ending.returned vr=.returned u'/\Fr ρ ρ' h h4 w w'/\bM ρ' h4 w'/\VR ρ' v u') YX M5 trivial ?_).mono ?_
        .refine hE w3.heap.size [] cg _ _ _ _ _ ρ3 _ w3 _ Jt (.of (hG.mono (f2.trans f3).grow) (tc g fg cg IL M5)) (λ_=>mc) (hG.mono (f2.trans f3).grow) s3 ((hf.right f2).right f3) heg Marks.nil trivial (aQ _) λρ4 a4 w4 f4 s4 r4 d4=>?_
         obtain ⟨rs4,n1,_,n2,_⟩:=d4
         rw [n2 rfl] at n1
         have n1':a4.defers=[]:=by simpa using n1
         obtain ⟨ug,hug,_⟩:=Vc hT s4 r4 JM
         obtain ⟨uf,huf,TX⟩:=Vc hT s4 (r3.mono f4.grow) hvf
         have Y8:a4.defers=[]/\∃ vv,(results fg a4.tmps).run P w4=.ok vv w4/\∃ u,Ending.returned vv=.returned u/\∃ vr,(results fn a3.tmps).run P w4=.ok vr w4/\∃ ρ' u',Ending.returned vr=.returned u'/\Fr ρ ρ' h h4 w w4/\bM ρ' h4 w4/\VR ρ' v u' :=
          ⟨n1',ug,hug,ug,rfl,uf,huf,ρ4,uf,rfl,((dI.trans f2).trans f3).trans f4,s4,TX⟩
         rcases hy with rfl|rfl
         .exact Y8
         .exact Y8
        .rintro ed u' w' ⟨rfl,uu,rfl,vr,FV,hR⟩
         exact ⟨vr,FV,hR⟩
      rcases hx with rfl|rfl
      .exact hl
      .exact hl
     .cases eD
   .cases eD
 unfold B5 at aj
 simp only [cy,Prod.exists] at aj
 obtain ⟨pre,m,t,rest,dq,aj⟩:=aj
 split at aj
 .rename_i mc
  simp only [dW] at mc
  exact key pre m t rest c (zqX _ _ _ _ _ dq) e h ρ w _ mc.1 mc.2 df hG hs hf he rfl (Fr.refl _ _ _) aj
 .cases aj

theorem V0 (ko:P.follows .mixedOrders=true) (hT:T.Fits P) (jg:Ax P T.gs ov):∀ n,CS P T.gs (call P T ov n)
 |0=>by
  refine ⟨?_,?_⟩
  .intro f args h v h' aj;simp [call] at aj
  .intro f args h v h' aj;simp [call] at aj
 |n+1=>by
  have JU:=V0 ko hT jg n
  have mG:=zle (T:=T) jg n
  have vo:=λ(rd rl:Option Nat) (n0:Nat)=>zf1 hT JU mG (zf2 ko hT JU mG) (Et mG) rd rl n0 [] false n
  have vI:=λ(rd:Option Nat)=>Es (P:=P) (T:=T) mG (Et (P:=P) (T:=T) mG) rd n
  refine ⟨?_,?_⟩
  .intro f args h v h' aj ρ w aK hG hs hf hv
   simp only [call] at aj
   split at aj
   .rename_i g hg
    exact (jg f g hg args h v h' aj).2 ρ w aK hG hs hf hv
   .simp only [cy] at aj
    obtain ⟨fn,kT,c,hc,aj⟩:=aj
    obtain ⟨hP,iD,df⟩:=hT.fn f fn kT
    right
    refine ⟨?_,?_⟩
    .have fD:¬ fn.name="runtime.NumGoroutine":=by simpa using iD
     simp [callFunc,hP,fD,hc]
    .refine callsIn_wide.1 (callsIn_of_wp_marks (n:=0) hP hc trivial ?_)
     have he:=cd.enter hv fn.ntmps
     have go:∀ (x:Ex) (e:Env) (h2:Heap),x=.ret\/x=.normal->dL P T (call P T ov n) (pg P T (call P T ov n)) none n c (args++List.replicate (fn.ntmps - args.length) undef) h=some (x,e,h2) ->
      (nc T fn e h2).map (λv=>(v,h2))=some (v,h')->c.wpIn Fence.wide 0 P (bodyPostM Fence.wide 0 P fn λed w'=>∃ ρ' u,ed=.returned u/\Fr ρ ρ' h h' w w'/\bM ρ' h' w'/\VR ρ' v u) { tmps:=aK++Array.replicate (fn.ntmps - aK.size) undef,defers:=[] } w:=by
      intro x e h2 hx hr jV
      simp only [cn,cR] at jV
      obtain ⟨v',jV,rfl,rfl⟩:=jV
      refine vo none none w.heap.size c _ _ _ _ _ ρ _ w _ hr (.of hG (df c hc)) (λq=>by cases q) hG hs hf he Marks.nil trivial (aQ _) λρ' a' w' f1 s1 e1 d1=>?_
      obtain ⟨rs,m1,m2,_,m3⟩:=d1
      rw [bD] at m1
      have hl:LeavesInM Fence.wide 0 P fn a'.tmps (λed w'=>∃ ρ' u,ed=.returned u/\Fr ρ ρ' h h2 w w'/\bM ρ' h2 w'/\VR ρ' v' u) a'.defers .returning w':=by
       rw [m1]
       refine zh7 rs w' m2 m3 s1 λw2 s2 q1 q2 q3 q4 q5=>?_
       obtain ⟨u,hu,o9⟩:=Vc hT s2 e1 jV
       refine ⟨u,hu,ρ',u,rfl,⟨f1.grow,f1.fresh,q1.trans f1.os,q2.trans f1.tape,q3.trans f1.output,by rw [q4];exact f1.size,f1.gY,f1.low,λb hb aE=>?_,f1.rS⟩,s2,o9⟩
       exact (q5 b (.inl hb)).trans (f1.fN b hb aE)
      rcases hx with rfl|rfl
      .exact hl
      .exact hl
     split at aj
     .exact zof hT JU mG (λn0 B c e h x e' h' ρ a w Q=>zf1 hT JU mG (zf2 ko hT JU mG) (Et mG) none none n0 B true n c e h x e' h' ρ a w Q) (λc e h x e' h' hr=>vI none c e h x e' h' hr) (λg fg cg h1 h2=>(hT.fn g fg h1).2.2 cg h2) (.of hG (df c hc)) hG hs hf he aj
     split at aj
     .rename_i e h2 hr;exact go .ret e h2 (.inl rfl) hr aj
     .rename_i e h2 hr;exact go .normal e h2 (.inr rfl) hr aj
     .cases aj
  .intro A args h v h' aj ρ w aK L hA hG hs hf hv
   simp only [call] at aj
   unfold B9 at aj
   split at aj
   .rename_i env ps assign body st fF hg
    split at aj
    .rename_i hlen
     split at aj
     .rename_i e1 h1 r6
      split at aj
      .rename_i qS Ed nY uP jZ ta
       obtain ⟨lo,l1,l2,l3,l4,l5,l6,l7,l8,l9,_⟩:=Lh hs hA hg
       have jd:args.length=aK.size:=by simpa using hv.1
       have FR:lo.params.size=ps.length:=by rw [<- l4];simp
       refine ⟨lo.fn,(lo.params.zip aK).foldl (λtmps (t,a)=>tmps.setIfInBounds t a) lo.tmps,lo.assign,lo.body,?_,?_⟩
       .simp only [Instr.yield,Sem.run_bind,run_getLoop l1,Result.andThen_ok]
        rw [aA (by omega)]
        simp
       .have key:∀ (x:Ex) (e2:Env) (h2:Heap) (jump:Option Code),dL P T (call P T ov n) (pg P T (call P T ov n)) (some A) n body e1 (h1.set A (.loop qS Ed nY uP .busy jZ))=some (x,e2,h2) ->
         (jump=match x with | .normal=>none | .ret=>some .ret | .exit id=>some (.exit id))->BN A jump h2=some (v,h')->RoundIn Fence.wide 0 P L.b lo.fn ((lo.params.zip aK).foldl (λtmps (t,a)=>tmps.setIfInBounds t a) lo.tmps) lo.assign lo.body w λed w'=>∃ ρ' u,ed=.returned u/\Fr ρ ρ' h h' w w'/\bM ρ' h' w'/\VR ρ' v u:=by
         intro x e2 h2 jump fo vH lW
         have k1:=vI (some A) _ _ _ _ _ _ r6
         have k2:=vI (some A) _ _ _ _ _ _ fo
         have k3:=NO lW
         have s1:=k2.size
         have s2:=k3.size
         rw [Heap.size_set] at s1
         refine roundIn_of_wpIn (F:=Fence.wide) trivial ?_
         have vx:cd ρ (iJ env ps args) ((lo.params.zip aK).foldl (λtmps (t,a)=>tmps.setIfInBounds t a) lo.tmps):=by
          have:=cd.iJ ps args aK.toList env lo.tmps l7 hv
          rw [<- Array.foldl_toList,Array.toList_zip,l4]
          exact this
         rw [l5]
         refine vo (some A) (some L.b) w.heap.size assign _ _ _ _ _ ρ _ w _ r6 l8 (λq=>by cases q) hG hs (hf.left (by omega)) vx Marks.nil ⟨L,hA,rfl⟩ (aQ _) λρ1 a1 w1 f1 sm1 en1 d1=>?_
         have nq:=f1.grow A L hA
         obtain ⟨ZU,p1,p2,p3,p4,p5,p6,p7,p8,p9,p10⟩:=Lh sm1 nq ta
         obtain ⟨f2,sm2⟩:=p10 .busy jZ
         have Tc:({ ZU with state:=LoopState.busy,pending:=jZ }:Loop)={ ZU with state:=LoopState.busy }:=by subst p3;rfl
         rw [Tc] at f2 sm2
         refine ⟨_,run_beginRound p1 p2,?_⟩
         rw [l6]
         refine vo (some A) (some L.b) w.heap.size body _ _ _ _ _ ρ1 a1 _ _ fo (l9.mono f1.grow) (λq=>by cases q) (hG.mono f1.grow) sm2 ?_ en1 (d1.step f2) ⟨L,nq,rfl⟩ (dZ f1.size f2.size) λρ3 a3 w3 f3 sm3 en3 d3=>?_
         .have dI:fj ρ1 h1 h2:=((hf.left (by omega)).right f1)
          exact dI
         .have kO:=f3.grow A L nq
          unfold BN at lW
          split at lW
          .rename_i H6 Z4 rT Az Bw Z3 SM
           cases lW
           obtain ⟨D9,z1,z2,z3,z4,z5,z6,z7,z8,z9,Em⟩:=Lh sm3 kO SM
           obtain ⟨f4,sm4⟩:=Em (if jump.isNone then .ready else .done) jump
           have kS:∃ ρ' u,Ending.returned (.bool jump.isNone)=.returned u/\Fr ρ ρ' h (h2.set A (.loop H6 Z4 rT Az (if jump.isNone then .ready else .done) jump)) w (w3.putObj L.b (.loop { D9 with state:=if jump.isNone then .ready else .done,pending:=jump })) /\
            bM ρ' (h2.set A (.loop H6 Z4 rT Az (if jump.isNone then .ready else .done) jump)) (w3.putObj L.b (.loop { D9 with state:=if jump.isNone then .ready else .done,pending:=jump }))/\VR ρ' (.bool jump.isNone) u :=
            ⟨ρ3,_,rfl,((f1.trans f2).trans f3).trans f4,sm4,.bool _⟩
           have ey:=run_endRound (P:=P) jump z1
           cases x with
           |normal=>subst vH;exact ⟨_,_,ey,kS⟩
           |ret=>subst vH;exact ⟨_,_,ey,kS⟩
           |exit id=>subst vH;exact ⟨_,_,ey,kS⟩
          .cases lW
        split at aj
        .rename_i e2 h2 fo;exact key _ _ _ _ fo rfl aj
        .rename_i e2 h2 fo;exact key _ _ _ _ fo rfl aj
        .rename_i e2 h2 fo;exact key _ _ _ _ fo rfl aj
        .cases aj
      .cases aj
     .cases aj
    .cases aj
   .cases aj

theorem Fr.below {ρ':ct} {w w':World} (f:Fr ρ ρ' h h' w w') (jT:∀ A L,ρ A=some L->A < h'.low):Below w.heap.size w w' :=
 ⟨f.os,f.tape,f.output,f.size,λk hk=>f.fN k hk λA L hA _=>.inl (jT A L hA)⟩

theorem zxB (ko:P.follows .mixedOrders=true) (hT:T.Fits P) (jg:Ax P T.gs ov) {n:Nat} {f:FuncId} {b:Bool} (hf:ov f=none) (ey:call P T ov n (.func f) [] h=some (.bool b,h')) (w:World) (ρ:ct)
 (hG:cU T.gs ρ) (hs:bM ρ h w) (b8:∀ A,h.size<=A->ρ A=none) (jT:∀ A L,ρ A=some L->A < h'.low) :
 Calls P f #[] w λe w'=>e=.returned (.bool b)/\Below w.heap.size w w':=by
 have qV:=(V0 ko hT jg n).fn f [] h (.bool b) h' ey ρ w #[] hG hs (λA h1 _=>b8 A h1) (.nil _)
 rcases qV with ⟨ρ',u,w',h1,_⟩|⟨_,h1⟩
 .exfalso
  cases n with
  |zero=>simp [call] at ey
  |succ n =>
   simp only [call,hf,cy] at ey
   obtain ⟨fn,kT,c,hc,_⟩:=ey
   obtain ⟨hP,iD,_⟩:=hT.fn f fn kT
   have fD:¬ fn.name="runtime.NumGoroutine":=by simpa using iD
   simp [callFunc,hP,fD,hc] at h1
 .refine h1.mono ?_
  rintro e w' ⟨ρ',u,rfl,f1,s1,hv⟩
  refine ⟨?_,f1.below jT⟩
  rw [hv.bG rfl]
end
end Go.Am
