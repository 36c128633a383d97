/- A region that draws its order: the plain machine goes by the text; what it comes to does not hang on the order. No condition. -/
import Derived.Test.YtnkmeidmdaidhaaGreatDoorG0
import Derived.Orders
import Derived.OrdersIn
set_option linter.unusedSimpArgs false
namespace Go.Am
open Go.RowKit

def Yq (T:bJ):List TypeId->Bool
 |t::_=>(match T.desc t with|some (.map _ _)=>false|_=>true)
 | []=>true
def pO (T:bJ) (o:Oper):Bool :=
 match o.op with
 | .move _ | .assign _ | .pick _ _ _ | .build _ _ | .nilCheck _ | .binOp _ _ _ _ _ | .makeFunc _ _ _ | .slice _ _ _ _ _ | .fieldAddr _ _ _ | .field _ _ _ | .indexAddr _ _ _ | .extract _ _ | .unOp _ _ _ | .index _ _ _ | .makeInterface _ _ | .typeAssert _ _ _ _=>true
 | .convert s d _ => !sZ T s && !sZ T d
 | .call c=>match c.callee with
  | .builtin .len=>Yq T c.argTypes.toList
  | .builtin .min | .builtin .max | .builtin .cap=>true
  |_=>false
 |_=>false

section
variable (P:Program) (T:bJ) (C:Fn->List ai->Heap->Option (ai × Heap))

def jH (o:Oper) (e:Env) (h h':Heap):Nat :=
 if pO T o then 0 else if h.size<=h'.low then (match o.op with
  | .load _ a=>(match bz e a with
   | .pointer (some x)=>3+3*x.block
   |_=>1)
  | .buildSlice _ _ _=>4+3*h.size
  |_=>1)
 else (match o.op with
  | .store _ a _=>(match bz e a with
   | .pointer (some x)=>5+3*x.block
   |_=>2)
  | .call c=>(match c.callee,c.args.toList with
   | .builtin .append,a::_=>(match bz e a with
    | .slice (some x) _ _=>5+3*x.block
    |_=>2)
   |_,_=>2)
  |_=>2)
def qX (ops:Array Oper):List Oper->Env->Heap->Option (List Nat × Env × Heap)
 | [],e,h=>some ([],e,h)
 |o::r,e,h =>
  if ma ops o e then
   match gD P T C e o { h with low:=h.size } with
   |some (v,h')=>(qX ops r (put e o.dst v) { h' with low:=min h.low h'.low }).map λ(ks,x)=>(jH T o e h h'::ks,x)
   |none=>none
  else (qX ops r (put e o.dst undef) h).map λ(ks,x)=>(0::ks,x)

def Qo (acc:List Nat) (o:Oper):Nat:=o.after.toList.foldl (λs e=>if Region.binds .any e then s ||| 2 ^ e.on ||| acc.getD e.on 0 else s) 0
def mS:List Oper->List Nat->List Nat
 | [],acc=>acc
 |o::r,acc=>mS r (acc++[Qo acc o])
def nD (a b:Nat):Bool:=a == 0 || b == 0 || (a % 3 != 2 && b % 3 != 2) || (Nat.ble 5 a && a % 3 == 2 && Nat.ble 3 b && b % 3 == 0 && b+2 != a) || (Nat.ble 5 b && b % 3 == 2 && Nat.ble 3 a && ((a % 3 == 0 && a+2 != b) || (a % 3 == 1 && Nat.ble (b+2) a)))
def HS (ops:Array Oper) (ks ms:List Nat) (j:Nat):Bool :=
 match ops[j]? with
 |some oj=>oj.after.toList.all (λe => !Region.binds .any e || decide (e.on < j)) &&
  (List.range j).all λi=>(ms.getD j 0).testBit i || (match ops[i]? with
   |some oi=>oi.apart ops oj && nD (ks.getD i 2) (ks.getD j 2)
   |none=>true)
 |none=>true
def Ga (ops:Array Oper) (ks ms:List Nat):Bool:=(List.range ops.size).all (HS ops ks ms)

def pP (ops:Array Oper) (e:Env) (h:Heap):Option (Env × Heap) :=
 match qX P T C ops ops.toList e h with
 |some (ks,e',h')=>if Ga ops ks (mS ops.toList []) then some (e',h') else none
 |none=>none
end

section
variable {P:Program} {T:bJ} {C:Fn->List ai->Heap->Option (ai × Heap)}

theorem zul {t:TypeId} {x:ai} {ts:List TypeId} (hb:Yq T (t::ts)=true) (h h2:Heap):bQ T t x h=bQ T t x h2:=by
 simp only [Yq] at hb
 unfold bQ
 split at hb
 .cases hb
 .rename_i aM
  split
  all_goals first|rfl|(rename_i hd;exact (aM _ _ hd).elim)

theorem Xr {e:Env} {o:Oper} {h h':Heap} {v:ai} (hb:pO T o=true) (aj:gD P T C e o h=some (v,h')):h'=h/\∀ h2,gD P T C e o h2=some (v,h2):=by
 have cP:∀ {r:Option ai},(r.map λx=>(x,h))=some (v,h')->h'=h/\∀ h2:Heap,(r.map λx=>(x,h2))=some (v,h2):=by
  intro r hr
  simp only [ct,cQ] at hr
  obtain ⟨_,rfl,rfl,rfl⟩:=hr
  exact ⟨rfl,λ_=>rfl⟩
 have dM:gP P e o h=some (v,h')->h'=h/\∀ h2,gP P e o h2=some (v,h2):=by
  intro hp
  unfold gP at hp ⊢
  split at hp
  .rename_i h1
   split at hp
   .rename_i h2
    split at hp
    .rename_i h3
     cases hp
     exact ⟨rfl,λ_=>by simp [h1,h3]⟩
    .cases hp
   .cases hp
  .cases hp
 obtain ⟨dst,op,ty,pos,after,guard⟩:=o
 cases op <;> simp only [pO,gX] at hb <;> simp only [gD] at aj ⊢
 case move x=>cases aj;exact ⟨rfl,λ_=>rfl⟩
 case assign x=>cases aj;exact ⟨rfl,λ_=>rfl⟩
 case pick c a b =>
  split at aj
  .cases aj;exact ⟨rfl,λ_=>rfl⟩
  .cases aj
 case build=>exact cP aj
 case nilCheck x =>
  split at aj
  .cases aj;exact ⟨rfl,λ_=>rfl⟩
  .cases aj;exact ⟨rfl,λ_=>rfl⟩
  .cases aj;exact ⟨rfl,λ_=>rfl⟩
  .cases aj
 case makeInterface=>exact cP aj
 case typeAssert=>exact cP aj
 case binOp=>exact cP aj
 case makeFunc fn f c =>
  split at aj
  .cases aj;exact ⟨rfl,λ_=>rfl⟩
  .cases aj
 case slice=>exact cP aj
 case fieldAddr=>exact cP aj
 case field=>exact cP aj
 case indexAddr=>exact cP aj
 case extract t i =>
  split at aj
  .exact cP aj
  .cases aj
 case unOp=>exact dM aj
 case convert s d x =>
  simp only [dK,zi] at hb
  rw [hb.1,hb.2] at aj ⊢
  exact dM aj
 case index=>exact dM aj
 case call c =>
  obtain ⟨callee,args,iq⟩:=c
  cases callee with
  |value f=>simp at hb
  |invoke r m=>simp at hb
  |builtin b =>
   cases b <;> simp at hb <;> simp only at aj ⊢
   case len =>
    split at aj
    .rename_i ue oB
     rw [ue] at hb
     obtain ⟨e1,e2⟩:=cP aj
     exact ⟨e1,λh2=>by rw [zul hb h2 h];exact e2 h2⟩
    .cases aj
   case min=>exact dM aj
   case max=>exact dM aj
   case cap =>
    split at aj
    .exact cP aj
    .cases aj

theorem zoH {e e':Env} {o:Oper} (h:Heap) (he:∀ x∈o.op.operands.toList,bz e x=bz e' x):gD P T C e o h=gD P T C e' o h:=by
 have dM:(∀ cs b,o.op≠.select cs b)->gP P e o h=gP P e' o h:=by
  intro Vs
  unfold gP
  have h1:execOp (bz e) o=execOp (bz e') o:=execOp_congr o Vs (λx hx=>he x (by simpa using hx))
  have h2:(o.op.operands.toList.all λx=>plain (bz e x))=(o.op.operands.toList.all λx=>plain (bz e' x)):=by
   rw [Bool.eq_iff_iff,iM,iM]
   exact ⟨λhh x hx=>by rw [<- he x hx];exact hh x hx,λhh x hx=>by rw [he x hx];exact hh x hx⟩
  rw [h1,h2]
 have n8:∀ (xs:List Operand),(∀ x∈xs,x∈o.op.operands.toList)->xs.map (bz e)=xs.map (bz e'):=λxs hx=>Dg λx oB=>he x (hx x oB)
 unfold gD
 dsimp only
 split
 .rename_i x aQ;rw [he x (by simp [aQ,Op.operands])]
 .rename_i x aQ;rw [he x (by simp [aQ,Op.operands])]
 .rename_i c a b aQ;rw [he c (by simp [aQ,Op.operands]),he a (by simp [aQ,Op.operands]),he b (by simp [aQ,Op.operands])]
 .rfl
 .rename_i t x aQ;rw [he x (by simp [aQ,Op.operands])]
 .rename_i t ps aQ
  rw [Dg (g:=λ(p:Nat × Operand)=>(p.1,bz e' p.2)) λp hp=>by rw [he p.2 (by simp [aQ,Op.operands];exact ⟨p.1,by simpa using hp⟩)]]
 .rename_i t n ps aQ
  rw [Dg (g:=λ(p:Nat × Operand)=>(p.1,bz e' p.2)) λp hp=>by rw [he p.2 (by simp [aQ,Op.operands];exact ⟨p.1,by simpa using hp⟩)]]
 .rename_i t x aQ;rw [he x (by simp [aQ,Op.operands])]
 .rename_i t a x aQ;rw [he a (by simp [aQ,Op.operands]),he x (by simp [aQ,Op.operands])]
 .rename_i x aQ;rw [he x (by simp [aQ,Op.operands])]
 .rename_i op t x y yt aQ;rw [he x (by simp [aQ,Op.operands]),he y (by simp [aQ,Op.operands])]
 .rename_i fn f c aQ
  have h1:=n8 f.toList (λx hx=>by simp [aQ,Op.operands];left;simpa using hx)
  have h2:=n8 c.toList (λx hx=>by simp [aQ,Op.operands];right;simpa using hx)
  have h3:f.map (bz e)=f.map (bz e'):=by apply Array.ext';simpa using h1
  have h4:c.map (bz e)=c.map (bz e'):=by apply Array.ext';simpa using h2
  rw [h3,h4]
 .rename_i t l c aQ;rw [he l (by simp [aQ,Op.operands]),he c (by simp [aQ,Op.operands])]
 .rename_i t x l hi m aQ
  have EC:∀ (y:Option Operand),(∀ z,y=some z->z∈o.op.operands.toList)->y.map (bz e)=y.map (bz e'):=by
   intro y hy
   cases y with
   |none=>rfl
   |some z=>simp [he z (hy z rfl)]
  rw [he x (by simp [aQ,Op.operands]),EC l (λz hz=>by subst hz;simp [aQ,Op.operands]),EC hi (λz hz=>by subst hz;simp [aQ,Op.operands]),EC m (λz hz=>by subst hz;simp [aQ,Op.operands])]
 .rename_i s x f aQ;rw [he x (by simp [aQ,Op.operands])]
 .rename_i t x f aQ;rw [he x (by simp [aQ,Op.operands])]
 .rename_i t x i aQ;rw [he x (by simp [aQ,Op.operands]),he i (by simp [aQ,Op.operands])]
 .rename_i t i aQ;rw [he t (by simp [aQ,Op.operands])]
 .rename_i aQ;exact dM (by simp [aQ])
 .rename_i s d x aQ;rw [he x (by simp [aQ,Op.operands]),dM (by simp [aQ])]
 .rename_i aQ;exact dM (by simp [aQ])
 .rename_i c aQ
  obtain ⟨callee,args,iq⟩:=c
  dsimp only
  have ha:=n8 args.toList (λx hx=>by simp [aQ,Op.operands,Call.operands];right;simpa using hx)
  have dR:∀ x∈args.toList,bz e x=bz e' x:=λx hx=>he x (by simp [aQ,Op.operands,Call.operands];right;simpa using hx)
  split
  .split
   .rename_i h1 h2;rw [dR _ (by rw [h2];simp),dR _ (by rw [h2];simp)]
   .rfl
  .split
   .rename_i h1 h2;rw [dR _ (by rw [h2];simp),dR _ (by rw [h2];simp)]
   .rfl
  .split
   .rename_i h1 h2;rw [dR _ (by rw [h2];simp)]
   .rfl
  .split
   .rename_i h1 h2;rw [dR _ (by rw [h2];simp)]
   .rfl
  .exact dM (by simp [aQ])
  .exact dM (by simp [aQ])
  .split
   .rename_i h1 h2;rw [dR _ (by rw [h2];simp),dR _ (by rw [h2];simp)]
   .rfl
  .split
   .rename_i h1 h2;rw [dR _ (by rw [h2];simp)]
   .rfl
  .rename_i rv name
   rw [he rv (by simp [aQ,Op.operands,Call.operands]),ha]
  .rename_i f
   rw [he f (by simp [aQ,Op.operands,Call.operands]),ha]
  .rfl
 .rename_i t r aQ
  cases r with
  |none=>rfl
  |some x=>simp only;rw [he x (by simp [aQ,Op.operands])]
 .rename_i t x k ok aQ;rw [he x (by simp [aQ,Op.operands]),he k (by simp [aQ,Op.operands])]
 .rename_i t m k x aQ;rw [he m (by simp [aQ,Op.operands]),he k (by simp [aQ,Op.operands]),he x (by simp [aQ,Op.operands])]
 .rename_i t m k x aQ;rw [he m (by simp [aQ,Op.operands]),he k (by simp [aQ,Op.operands]),he x (by simp [aQ,Op.operands])]
 .rename_i t m k aQ;rw [he m (by simp [aQ,Op.operands]),he k (by simp [aQ,Op.operands])]
 .rename_i t m k x aQ;rw [he m (by simp [aQ,Op.operands]),he k (by simp [aQ,Op.operands]),he x (by simp [aQ,Op.operands])]
 .rename_i t x aQ;rw [he x (by simp [aQ,Op.operands])]
 .rename_i x xt t ok aQ;rw [he x (by simp [aQ,Op.operands])]
 .rfl
end
end Go.Am
namespace Go.Am
open Go.RowKit

section
variable {P:Program} {T:bJ} {C:Fn->List ai->Heap->Option (ai × Heap)}

def fj (P:Program) (T:bJ) (C:Fn->List ai->Heap->Option (ai × Heap)) (ops:Array Oper) (o:Oper) (e e1:Env) (h h1:Heap) (v:ai) (k:Nat):Prop :=
 (ma ops o e=true/\∃ h2,gD P T C e o { h with low:=h.size }=some (v,h2)/\h1={ h2 with low:=min h.low h2.low }/\e1=put e o.dst v/\k=jH T o e h h2) \/
 (ma ops o e=false/\v=undef/\h1=h/\e1=put e o.dst undef/\k=0)

theorem zte {ops:Array Oper}:∀ (l:List Oper) (e e':Env) (h h':Heap) (ks:List Nat),qX P T C ops l e h=some (ks,e',h') ->
 ∃ (E:Nat->Env) (H:Nat->Heap) (V:Nat->ai),E 0=e/\H 0=h/\E l.length=e'/\H l.length=h'/\ks.length=l.length /\
   ∀ i o,l[i]? = some o->fj P T C ops o (E i) (E (i+1)) (H i) (H (i+1)) (V i) (ks.getD i 2)
 | [],e,e',h,h',ks,aj=>by
  simp only [qX,eh,cQ] at aj
  obtain ⟨rfl,rfl,rfl⟩:=aj
  exact ⟨λ_=>e,λ_=>h,λ_=>undef,rfl,rfl,rfl,rfl,rfl,λi o hi=>by simp at hi⟩
 |o::l,e,e',h,h',ks,aj=>by
  have glue:∀ (e1:Env) (h1:Heap) (v:ai) (k:Nat) (dp:List Nat),qX P T C ops l e1 h1=some (dp,e',h')->fj P T C ops o e e1 h h1 v k->ks=k::dp ->
   ∃ (E:Nat->Env) (H:Nat->Heap) (V:Nat->ai),E 0=e/\H 0=h/\E (o::l).length=e'/\H (o::l).length=h'/\ks.length=(o::l).length /\
     ∀ i o',(o::l)[i]? = some o'->fj P T C ops o' (E i) (E (i+1)) (H i) (H (i+1)) (V i) (ks.getD i 2):=by
   intro e1 h1 v k dp hr cZ hk
   obtain ⟨E,H,V,bU,dc,vS,OE,h5',h6'⟩:=zte l e1 e' h1 h' dp hr
   subst hk
   refine ⟨λn=>match n with|0=>e|n+1=>E n,λn=>match n with|0=>h|n+1=>H n,λn=>match n with|0=>v|n+1=>V n,rfl,rfl,vS,OE,by simp [h5'],?_⟩
   intro i o' hi
   cases i with
   |zero =>
    simp only [C7,eh] at hi
    subst hi
    simp only [bU,dc,List.getD_cons_zero]
    exact cZ
   |succ i =>
    have:=h6' i o' (by simpa using hi)
    simpa using this
  simp only [qX] at aj
  split at aj
  .rename_i hw
   split at aj
   .rename_i v h2 hr
    simp only [ct,Prod.exists,cQ] at aj
    obtain ⟨dp,x1,x2,cw,hk,rfl,rfl⟩:=aj
    exact glue _ _ v _ dp cw (.inl ⟨hw,h2,hr,rfl,rfl,rfl⟩) hk.symm
   .cases aj
  .rename_i hw
   simp only [ct,Prod.exists,cQ] at aj
   obtain ⟨dp,x1,x2,cw,hk,rfl,rfl⟩:=aj
   exact glue _ _ undef _ dp cw (.inr ⟨by simpa using hw,rfl,rfl,rfl,rfl⟩) hk.symm

theorem Xu:∀ (l:List Oper) (acc:List Nat) (k:Nat),k < acc.length->(mS l acc).getD k 0=acc.getD k 0
 | [],acc,k,_=>rfl
 |o::l,acc,k,hk=>by
  rw [mS,Xu l _ k (by simp;omega)]
  simp [jz hk]
theorem Yr:∀ (l:List Oper) (acc:List Nat) (t:Nat) (o:Oper),l[t]? = some o->∃ ry:List Nat,ry.length=acc.length+t/\(mS l acc).getD (acc.length+t) 0=Qo ry o/\∀ k,k < acc.length+t->ry.getD k 0=(mS l acc).getD k 0
 | [],acc,t,o,h=>by simp at h
 |o'::l,acc,0,o,h=>by
  simp only [C7,eh] at h
  subst h
  refine ⟨acc,rfl,?_,λk hk=>?_⟩
  .rw [mS,gx,Xu l _ acc.length (by simp)]
   simp
  .rw [mS,Xu l _ k (by simp;omega)]
   simp [jz (show k < acc.length by omega)]
 |o'::l,acc,t+1,o,h=>by
  obtain ⟨ry,h1,h2,h3⟩:=Yr l (acc++[Qo acc o']) t o (by simpa using h)
  simp only [cE,gF] at h1 h2 h3
  rw [show acc.length+(t+1)=acc.length+1+t by omega]
  exact ⟨ry,h1,h2,h3⟩

theorem zie {acc:List Nat} {o:Oper} {i:Nat} (h:(Qo acc o).testBit i=true):∃ e∈o.after.toList,Region.binds .any e=true/\(i=e.on\/(acc.getD e.on 0).testBit i=true):=by
 have key:∀ (l:List Edge) (s:Nat),(l.foldl (λs e=>if Region.binds .any e then s ||| 2 ^ e.on ||| acc.getD e.on 0 else s) s).testBit i=true ->
  s.testBit i=true\/∃ e∈l,Region.binds .any e=true/\(i=e.on\/(acc.getD e.on 0).testBit i=true):=by
  intro l
  induction l with
  |nil=>intro s hs;exact .inl hs
  |cons e l ih =>
   intro s hs
   rw [uL] at hs
   rcases ih _ hs with h1|⟨e',h1,h2,h3⟩
   .split at h1
    .rename_i hb
     rw [Nat.testBit_or,Nat.testBit_or,sg,sg] at h1
     rcases h1 with (h1|h1)|h1
     .exact .inl h1
     .rw [Nat.testBit_two_pow] at h1
      exact .inr ⟨e,by simp,hb,.inl (of_decide_eq_true h1).symm⟩
     .exact .inr ⟨e,by simp,hb,.inr h1⟩
    .exact .inl h1
   .exact .inr ⟨e',by simp [h1],h2,h3⟩
 rcases key _ 0 h with h1|h1
 .simp at h1
 .exact h1

theorem X2 {ops:Array Oper} {S:Nat->Prop} (mu:∀ (j:Nat) (o:Oper),ops[j]? = some o->∀ e∈o.after.toList,Region.binds .any e=true->e.on < j)
 (kg:∀ (j:Nat) (o:Oper),ops[j]? = some o->S j->∀ e∈o.after.toList,Region.binds .any e=true->S e.on) :
 ∀ (n j:Nat) (o:Oper) (i:Nat),j<=n->ops[j]? = some o->(∀ e∈o.after.toList,Region.binds .any e=true->S e.on)->((mS ops.toList []).getD j 0).testBit i=true->S i:=by
 intro n
 induction n with
 |zero =>
  intro j o i hj ho hd hb
  obtain ⟨ry,h1,h2,h3⟩:=Yr ops.toList [] j o (by simpa using ho)
  simp only [db,iA] at h1 h2 h3
  rw [h2] at hb
  obtain ⟨e,he,gz,_⟩:=zie hb
  have:=mu j o ho e he gz
  omega
 |succ n ih =>
  intro j o i hj ho hd hb
  obtain ⟨ry,h1,h2,h3⟩:=Yr ops.toList [] j o (by simpa using ho)
  simp only [db,iA] at h1 h2 h3
  rw [h2] at hb
  obtain ⟨e,he,gz,hi⟩:=zie hb
  have aT:=mu j o ho e he gz
  have hS:=hd e he gz
  rcases hi with rfl|hi
  .exact hS
  .rw [h3 e.on aT] at hi
   have GW:j < ops.size:=(mU.1 ho).1
   have hoe:ops[e.on]? = some (ops[e.on]'(by omega)):=HQ _
   exact ih e.on _ i (by omega) hoe (kg e.on _ hoe hS) hi

def eS (e0:Env) (dst:Nat->Option Tmp) (V:Nat->ai) (S:Nat->Bool):Nat->Env
 |0=>e0
 |k+1=>if S k then put (eS e0 dst V S k) (dst k) (V k) else eS e0 dst V S k

theorem NQ {e0:Env} {dst:Nat->Option Tmp} {V:Nat->ai} {S:Nat->Bool} {k:Nat} (h:S k=true):eS e0 dst V S (k+1)=put (eS e0 dst V S k) (dst k) (V k):=by simp only [eS,h,if_true]
theorem Ic {e0:Env} {dst:Nat->Option Tmp} {V:Nat->ai} {S:Nat->Bool} {k:Nat} (h:S k=false):eS e0 dst V S (k+1)=eS e0 dst V S k:=by simp only [eS,h,gX,if_false]
theorem PS (e:Env) (d:Option Tmp) (v:ai):(put e d v).length=e.length:=by cases d <;> simp [put,Env.length_set]
theorem FH (e0:Env) (dst:Nat->Option Tmp) (V:Nat->ai) (S:Nat->Bool):∀ k,(eS e0 dst V S k).length=e0.length
 |0=>rfl
 |k+1=>by
  simp only [eS]
  split
  .rw [PS,FH e0 dst V S k]
  .exact FH e0 dst V S k
theorem Hq {e:Env} {d:Option Tmp} {v:ai} {t:Nat} (h:d≠some t):(put e d v).get t=e.get t:=by
 cases d with
 |none=>rfl
 |some d=>simp only [put,Env.aG];rw [az (λhh=>h (by rw [hh.1]))]
theorem Xf {e e':Env} (hl:e.length=e'.length) {d:Option Tmp} {v:ai} {t:Nat} (h:e.get t=e'.get t):(put e d v).get t=(put e' d v).get t:=by
 cases d with
 |none=>exact h
 |some d=>simp only [put,Env.aG,hl,h]

end
end Go.Am
namespace Go.Am
open Go.RowKit
variable {k:Nat} {v:ai} {h h' h1:Heap} {e e1:Env} {o:Oper} {ops:Array Oper} {t:TypeId}

theorem zos {p p':Nat->Bool}:∀ (l:List Nat),(∀ k∈l,p' k=true->p k=true)->(∃ x∈l,p x=true/\p' x=false)->l.countP p' < l.countP p
 | [],_,h=>by obtain ⟨x,hx,_⟩:=h;simp at hx
 |a::l,hle,h=>by
  have abH:l.countP p'<=l.countP p:=List.countP_mono_left λk hk=>hle k (by simp [hk])
  obtain ⟨x,hx,hp,lE⟩:=h
  rw [Ig,Ig]
  rcases df.1 hx with rfl|hx
  .simp only [hp,lE,if_true,gX,if_false]
   omega
  .have ih:=zos l (λk hk=>hle k (by simp [hk])) ⟨x,hx,hp,lE⟩
   by_cases ha:p' a=true
   .rw [aD ha,aD (hle a (by simp) ha)];omega
   .rw [az ha];split <;> omega

section
variable {P:Program} {T:bJ} {C:Fn->List ai->Heap->Option (ai × Heap)}

theorem Heap.jg (h:Heap) (x A:Nat):Heap.get { h with low:=x } A=h.get A:=rfl

theorem fj.keeps (hg:ti C) (hs:fj P T C ops o e e1 h h1 v k):bt h h1:=by
 rcases hs with ⟨_,h2,aj,rfl,_,_⟩|⟨_,_,rfl,_,_⟩
 .have hk:=Fw hg aj
  exact ⟨hk.size,yb _ _,λA h3 h4=>hk.get A h3 (dr h4 (Ii _ _))⟩
 .exact .refl _
theorem zjC (hb:pO T o=true):jH T o e h h'=0:=by unfold jH;rw [aD hb]
theorem XT (hb:¬ pO T o=true) (hl:h.size<=h'.low):jH T o e h h' % 3≠2/\jH T o e h h'≠0 /\
 (jH T o e h h'=1\/(∃ t a x,o.op=.load t a/\bz e a=.pointer (some x)/\jH T o e h h'=3+3*x.block)\/((∃ t n ps,o.op=.buildSlice t n ps)/\jH T o e h h'=4+3*h.size)):=by
 unfold jH
 rw [az hb,aD hl]
 split
 .rename_i t a aQ
  split
  .rename_i x hx
   exact ⟨by omega,by omega,.inr (.inl ⟨t,a,x,aQ,hx,rfl⟩)⟩
  .exact ⟨by omega,by omega,.inl rfl⟩
 .rename_i t n ps aQ
  exact ⟨by omega,by omega,.inr (.inr ⟨⟨t,n,ps,aQ⟩,rfl⟩)⟩
 .exact ⟨by omega,by omega,.inl rfl⟩
theorem P2 (hb:¬ pO T o=true) (hl:¬ h.size<=h'.low):jH T o e h h' % 3=2 /\
 (jH T o e h h'=2\/(∃ t a y x,o.op=.store t a y/\bz e a=.pointer (some x)/\jH T o e h h'=5+3*x.block) \/
  ∃ c a as x n m,o.op=.call c/\c.callee=.builtin .append/\c.args.toList=a::as/\bz e a=.slice (some x) n m/\jH T o e h h'=5+3*x.block):=by
 unfold jH
 rw [az hb,az hl]
 split
 .rename_i t a y aQ
  split
  .rename_i x hx
   exact ⟨by omega,.inr (.inl ⟨t,a,y,x,aQ,hx,rfl⟩)⟩
  .exact ⟨rfl,.inl rfl⟩
 .rename_i c aQ
  split
  .rename_i a as hc ha
   split
   .rename_i x n m hx
    exact ⟨by omega,.inr (.inr ⟨c,a,as,x,n,m,aQ,hc,ha,hx,rfl⟩)⟩
   .exact ⟨rfl,.inl rfl⟩
  .exact ⟨rfl,.inl rfl⟩
 .exact ⟨rfl,.inl rfl⟩
theorem zme {x:ai} {p:Addr} {n c:Nat} (ha:jT T t (.slice (some p) n c) x h=some (v,h')):∀ B,B < h.size->B≠p.block->h'.get B=h.get B:=by
 intro B hB aM
 obtain ⟨A,o,sp⟩:=p
 replace aM:B≠A:=aM
 unfold jT at ha
 split at ha
 .simp only [cG,Prod.exists] at ha
  obtain ⟨k,tx,z,_,m,news,_,ha⟩:=ha
  split at ha
  .cases ha;rfl
  .split at ha
   .cases ha
   .split at ha
    .split at ha
     .rename_i A' o' heq
      cases heq
      split at ha
      .simp only [ct,cQ] at ha
       obtain ⟨h1,hw,_,rfl⟩:=ha
       unfold nM at hw
       split at hw
       .rename_i cs e' hg
        split at hw
        .cases hw
         rw [Heap.aG _ _ _ _ (Heap.aq hg),az aM]
        .cases hw
       .cases hw
      .cases ha
     .cases ha
    .simp only [cG] at ha
     obtain ⟨eF,_,ha⟩:=ha
     split at ha
     .cases ha
      rw [Heap.bA,az (by omega)]
     .split at ha
      .rename_i A' o' sp' heq
       cases heq
       split at ha
       .rename_i hg
        split at ha
        .cases ha
         rw [Heap.bA,az (by rw [Heap.size_set];omega),Heap.aG _ _ _ _ (Heap.aq hg),az aM]
        .cases ha
       .cases ha
      .cases ha
 .cases ha
theorem HK {a b:Nat} (ha:a % 3=2) (hk:nD a b=true):b=0\/(5<=a/\b % 3=0/\3<=b/\b+2≠a):=by
 unfold nD at hk
 simp only [sg,dK,beq_iff_eq,bne_iff_ne,Nat.ble_eq] at hk
 omega
theorem zwU {a b:Nat} (hb:b % 3=2) (hk:nD a b=true):a=0\/(5<=b/\((a % 3=0/\3<=a/\a+2≠b)\/(a % 3=1/\3<=a/\b+2<=a))):=by
 unfold nD at hk
 simp only [sg,dK,beq_iff_eq,bne_iff_ne,Nat.ble_eq] at hk
 omega
theorem fj.same (hg:ti C) (hs:fj P T C ops o e e1 h h1 v k) (o9:k % 3≠2):∀ A,A < h.size->h1.get A=h.get A:=by
 rcases hs with ⟨_,h2,aj,rfl,_,hk⟩|⟨_,_,rfl,_,_⟩
 .intro A hA
  by_cases hb:pO T o=true
  .rw [Heap.jg,(Xr hb aj).1];rfl
  .by_cases hl:h.size<=h2.low
   .exact (Fw hg aj).get A hA (by omega)
   .exact (o9 (by rw [hk];exact (P2 hb hl).1)).elim
 .intro A _;rfl
theorem fj.still (hs:fj P T C ops o e e1 h h1 v k) (uS:k % 3=0):h1.size=h.size/\∀ A,h1.get A=h.get A:=by
 rcases hs with ⟨_,h2,aj,rfl,_,hk⟩|⟨_,_,rfl,_,_⟩
 .by_cases hb:pO T o=true
  .obtain ⟨rfl,_⟩:=Xr hb aj
   exact ⟨rfl,λ_=>rfl⟩
  .by_cases hl:h.size<=h2.low
   .rcases (XT (e:=e) hb hl).2.2 with h3|⟨t,a,x,aQ,hx,h3⟩|⟨_,h3⟩
    .omega
    .unfold gD at aj
     simp only [aQ,ct,cQ] at aj
     obtain ⟨_,_,_,rfl⟩:=aj
     exact ⟨rfl,λ_=>rfl⟩
    .omega
   .exfalso
    have:=(P2 (e:=e) hb hl).1
    omega
 .exact ⟨rfl,λ_=>rfl⟩
theorem fj.other (hs:fj P T C ops o e e1 h h1 v k) (o9:k % 3=2) (hk5:5<=k):∀ A,A < h.size->5+3*A≠k->h1.get A=h.get A:=by
 rcases hs with ⟨_,h2,aj,rfl,_,hk⟩|⟨_,_,rfl,_,_⟩
 .intro A dS hA
  by_cases hb:pO T o=true
  .rw [zjC hb] at hk;omega
  .by_cases hl:h.size<=h2.low
   .have:=(XT (e:=e) hb hl).1
    omega
   .rcases (P2 (e:=e) hb hl).2 with h3|⟨t,a,y,x,aQ,hx,h3⟩|⟨c,a,as,x,n,m,aQ,D3,eb,hx,h3⟩
    .omega
    .have aM:A≠x.block:=λe'=>by subst e';omega
     unfold gD at aj
     simp only [aQ,hx,ct,cQ] at aj
     obtain ⟨h4,hr,_,rfl⟩:=aj
     rw [Heap.jg]
     obtain ⟨B,off,sp⟩:=x
     unfold i7 at hr
     split at hr
     .rename_i B' o' heq
      cases heq
      simp only [cG] at hr
      obtain ⟨n,_,hr⟩:=hr
      split at hr
      .unfold nM at hr
       split at hr
       .rename_i cs e' hg
        split at hr
        .cases hr
         rw [Heap.aG _ _ _ _ (Heap.aq hg),az aM]
         rfl
        .cases hr
       .cases hr
      .cases hr
     .cases hr
    .have aM:A≠x.block:=λe'=>by subst e';omega
     unfold gD at aj
     simp only [aQ,D3,eb] at aj
     rw [Heap.jg]
     split at aj
     .rename_i heq
      cases heq
      split at aj
      .rw [hx] at aj
       exact zme aj A dS aM
      .cases aj
     .cases aj
 .intro A _ _;rfl

theorem bT.swap {ρ:cI} {w:World} (hs:bT ρ h w) (gq:∀ A L,ρ A=some L->h1.get A=h.get A\/h1.get A=none):bT ρ h1 w:=by
 refine ⟨λA L hA=>?_,λA A' L L' hA fk aM hb=>?_⟩
 .rcases gq A L hA with h2|h2
  .rw [h2];exact hs.lR A L hA
  .rw [h2];exact hs.lt hA
 .have dQ:∀ B M,ρ B=some M->¬ live h B->¬ live h1 B:=by
   rintro B M hB hn ⟨b,h3,h4⟩
   rcases gq B M hB with h2|h2
   .exact hn ⟨b,by rw [<- h2];exact h3,h4⟩
   .rw [h2] at h3;cases h3
  rcases hs.inj A A' L L' hA fk aM hb with h2|h2|⟨⟨c1,e1,h2⟩,⟨c2,e2,h3⟩⟩
  .exact .inl (dQ _ _ hA h2)
  .exact .inr (.inl (dQ _ _ fk h2))
  .rcases gq A L hA with h4|h4
   .rcases gq A' L' fk with h5|h5
    .exact .inr (.inr ⟨⟨c1,e1,by rw [h4];exact h2⟩,⟨c2,e2,by rw [h5];exact h3⟩⟩)
    .exact .inr (.inl (by rintro ⟨b,h6,_⟩;rw [h5] at h6;cases h6))
   .exact .inl (by rintro ⟨b,h6,_⟩;rw [h4] at h6;cases h6)

theorem Fr.step {ρ0 ρ ρ':cI} {h0 hf hi hj:Heap} {w0 w w':World} (f:Fr ρ0 ρ h0 hf w0 w) (g:Fr ρ ρ' hi hj w w') (h1:hf.low<=hj.low) (h2:hj.size<=hf.size) (h3:h0.size<=hi.size):Fr ρ0 ρ' h0 hf w0 w':=by
 refine ⟨λA L hA=>g.grow A L (f.grow A L hA),?_,g.os.trans f.os,g.tape.trans f.tape,g.output.trans f.output,eA f.size g.size,f.iv,f.low,?_,f.sy⟩
 .intro A L hA hn
  cases hρ:ρ A with
  |some L1 =>
   have e:L1=L:=by have:=g.grow A L1 hρ;rw [hA] at this;exact (Option.some.inj this).symm
   subst e
   exact f.fresh A L1 hρ hn
  |none =>
   obtain ⟨k1,k2,k3⟩:=g.fresh A L hA hρ
   refine ⟨by omega,by omega,?_⟩
   rcases k3 with k3|⟨A0,L0,h5,he,hl,Ab⟩
   .exact .inl (eA f.size k3)
   .cases E4:ρ0 A0 with
    |some L1 =>
     have e:L1=L0:=by have:=f.grow A0 L1 E4;rw [h5] at this;exact (Option.some.inj this).symm
     subst e
     exact .inr ⟨A0,L1,E4,he,by omega,by omega⟩
    |none =>
     rcases (f.fresh A0 L0 h5 E4).2.2 with h6|⟨A1,L1,h6,he6,hl6,UT⟩
     .exact .inl (by omega)
     .exact .inr ⟨A1,L1,h6,he6.trans he,hl6,UT⟩
 .intro b hb aB
  rw [g.keep b (dr hb f.size) ?_,f.keep b hb aB]
  intro A L hA hL
  cases hρ:ρ0 A with
  |some L0 =>
   have e:L0=L:=by have:=f.grow A L0 hρ;rw [hA] at this;exact (Option.some.inj this).symm
   subst e
   have:=aB A L0 hρ hL
   omega
  |none =>
   rcases (f.fresh A L hA hρ).2.2 with k1|⟨A0,L0,h5,he,hl,Ab⟩
   .omega
   .have:=aB A0 L0 h5 (he.trans hL)
    omega

theorem zjG {x:Addr} {hh:Heap} (hg:hh.get x.block=h.get x.block):iz T t (.pointer (some x)) hh=iz T t (.pointer (some x)) h:=by
 obtain ⟨B,o,s⟩:=x
 cases s <;> simp only [iz,kY,hg]
theorem zsz {x:Addr} (hl:iz T t (.pointer (some x)) h=some v):x.block < h.size:=by
 rcases mW x.block h.size with h1|h1
 .exact h1
 .exfalso
  have hn:h.get x.block=none:=by unfold Heap.get;rw [az (by omega)]
  obtain ⟨B,o,s⟩:=x
  simp only at hn
  cases s with
  |some q=>cases hl
  |none =>
   simp only [iz,kY,hn,cG] at hl
   obtain ⟨g,_,hl⟩:=hl
   cases g <;> simp at hl
theorem zjg {n:Nat} {ps:List (Nat × ai)} {h2:Heap} (hb:xM T t n ps h=some (v,h2)) (hs:h1.size=h.size):∃ b,h2=h.push b/\xM T t n ps h1=some (v,h1.push b):=by
 unfold xM at hb ⊢
 split at hb
 .rename_i e hd
  simp only [cG,Prod.exists] at hb
  obtain ⟨k,tx,z,hi,hb⟩:=hb
  split at hb
  .cases hb
  .rename_i hc
   simp only [ct,cQ] at hb
   obtain ⟨cs,rH,rfl,rfl⟩:=hb
   refine ⟨_,rfl,?_⟩
   simp only [hi,dO]
   rw [az hc,rH,hs]
   rfl
 .cases hb
theorem zq8 {t:Nat} (h:Operand.tmp t∈o.op.operands.toList):t∈o.looksAt ops:=by
 unfold Oper.looksAt
 rw [gg]
 left
 rw [List.mem_filterMap]
 exact ⟨_,h,rfl⟩

set_option maxHeartbeats 1000000 in
theorem zgf (kV:P.follows .mixedOrders=true) (hT:T.Fits P) {gs:List Nat} (hC:CS P gs C) (hg:ti C):DS P gs (pP P T C):=by
 intro rl id ops e0 e' h0 h' ρ0 a0 w0 Q aj cV hG0 hs0 OX wq hQ
 unfold pP at aj
 split at aj
 case h_2=>cases aj
 rename_i ks ee hh eg
 split at aj
 case isFalse=>cases aj
 rename_i Cc
 cases aj
 obtain ⟨E,H,V,TW,zK,hEn,yl,jY,htr⟩:=zte ops.toList e0 e' h0 h' ks eg
 rw [vu] at hEn yl
 have mI:∀ i o,ops[i]? = some o->fj P T C ops o (E i) (E (i+1)) (H i) (H (i+1)) (V i) (ks.getD i 2):=λi o ho=>htr i o (by simpa using ho)
 have eK:∀ i,i < ops.size->∃ o,ops[i]? = some o:=λi hi=>⟨_,HQ hi⟩
 have cC:∀ i j,i<=j->j<=ops.size->bt (H i) (H j):=by
  intro i j fw
  induction fw with
  |refl=>intro _;exact .refl _
  |step fw ih =>
   rename_i k
   intro hj
   obtain ⟨o,ho⟩:=eK k (by omega)
   exact (ih (by omega)).trans ((mI k o ho).keeps hg)
 have fX:∀ i j,i<=j->j<=ops.size->(∀ k,i<=k->k < j->ks.getD k 2 % 3≠2)->∀ A,A < (H i).size->(H j).get A=(H i).get A:=by
  intro i j fw
  induction fw with
  |refl=>intro _ _ A _;rfl
  |step fw ih =>
   rename_i k
   intro hj hk A hA
   obtain ⟨o,ho⟩:=eK k (by omega)
   have h1:=(mI k o ho).same hg (hk k (by omega) (ri _)) A (dr hA (cC i k (by omega) (by omega)).size)
   exact h1.trans (ih (by omega) (λq h2 h3=>hk q h2 (by omega)) A hA)
 have uR:∀ j,j < ops.size->HS ops ks (mS ops.toList []) j=true:=λj hj=>iM.1 Cc j (rj.2 hj)
 have mu:∀ (j:Nat) (o:Oper),ops[j]? = some o->∀ e∈o.after.toList,Region.binds .any e=true->e.on < j:=by
  intro j o ho e he hb
  have:=uR j (mU.1 ho).1
  simp only [HS,ho,dK,iM] at this
  have h2:=this.1 e he
  simpa [hb] using h2
 have wQ:∀ (i j:Nat) (oi oj:Oper),i < j->ops[i]? = some oi->ops[j]? = some oj->((mS ops.toList []).getD j 0).testBit i=true\/(oi.apart ops oj=true/\nD (ks.getD i 2) (ks.getD j 2)=true):=by
  intro i j oi oj fw Ap oe
  have:=uR j (mU.1 oe).1
  simp only [HS,oe,dK,iM] at this
  have h2:=this.2 i (rj.2 fw)
  simpa [Ap] using h2
 clear Cc uR
 let dst:Nat->Option Tmp:=λk=>(ops[k]?).bind (·.dst)
 refine wpIn_region_any kV ?_
 have JX:∀ k,k<=ops.size->(E k).length=e0.length:=by
  intro k
  induction k with
  |zero=>intro _;rw [TW]
  |succ k ih =>
   intro hk
   obtain ⟨o,ho⟩:=eK k (by omega)
   rcases mI k o ho with ⟨_,_,_,_,h1,_⟩|⟨_,_,_,h1,_⟩ <;> rw [h1,PS,ih (by omega)]
 have B5:∀ k o,ops[k]? = some o->E (k+1)=put (E k) (dst k) (V k):=by
  intro k o ho
  have hd:dst k=o.dst:=by simp [dst,ho]
  rw [hd]
  rcases mI k o ho with ⟨_,_,_,_,h1,_⟩|⟨_,h2,_,h1,_⟩
  .exact h1
  .rw [h1,h2]
 have fin:∀ (listed:Array Bool) (ρ:cI) (a:Act) (w:World),(∀ k,k < ops.size->listed.getD k false=true)->cn ρ (eS e0 dst V (λk=>listed.getD k false) ops.size) a.tmps->a.defers=a0.defers ->
  (∃ m,m<=ops.size/\bT ρ (H m) w/\(∀ k,k < m->ks.getD k 2 % 3=2->listed.getD k false=true)/\(m=ops.size\/(ks.getD m 2 % 3=2/\listed.getD m false=false)))->Fr ρ0 ρ h0 h' w0 w->Q .normal a w:=by
  intro listed ρ a w aB kh tL ub dL
  obtain ⟨m,fW,eX,qT,Es⟩:=ub
  have U7:m=ops.size:=by
   rcases Es with h1|⟨_,h1⟩
   .exact h1
   .rcases mW m ops.size with h2|h2
    .rw [aB m h2] at h1;cases h1
    .omega
  subst U7
  rw [yl] at eX
  have heq:∀ k,k<=ops.size->eS e0 dst V (λk=>listed.getD k false) k=E k:=by
   intro k
   induction k with
   |zero=>intro _;exact TW.symm
   |succ k ih =>
    intro hk
    obtain ⟨o,ho⟩:=eK k (by omega)
    simp only [eS]
    rw [aD (aB k (by omega)),ih (by omega),B5 k o ho]
  rw [heq _ (aR _),hEn] at kh
  exact hQ ρ a w dL eX kh tL
 have xB:∀ (listed:Array Bool),listed.size=ops.size->Region.ready .any ops listed=[]->∀ k,k < ops.size->listed.getD k false=true:=by
  intro listed Cj hr k
  induction k using Nat.strongRecOn with
  |_ k ih =>
   intro hk
   cases hb:listed.getD k false with
   |true=>rfl
   |false =>
    exfalso
    obtain ⟨o,ho⟩:=eK k hk
    have dR:k∈Region.ready .any ops listed:=by
     rw [mem_ready]
     refine ⟨?_,o,ho,λe he gz=>?_⟩
     .have:k < listed.size:=by omega
      simp [this] at hb ⊢
      exact hb
     .have aT:=mu k o ho e (by simpa using he) gz
      exact ih e.on aT (by omega)
    rw [hr] at dR
    cases dR
 have main:∀ (fuel:Nat) (listed:Array Bool) (ρ:cI) (a:Act) (w:World),listed.size=ops.size->(List.range ops.size).countP (λk => !listed.getD k false)<=fuel ->
  (∀ (j:Nat) (o:Oper),ops[j]? = some o->listed.getD j false=true->∀ e∈o.after.toList,Region.binds .any e=true->listed.getD e.on false=true) ->
  cn ρ (eS e0 dst V (λk=>listed.getD k false) ops.size) a.tmps->a.defers=a0.defers ->
  (∃ m,m<=ops.size/\bT ρ (H m) w/\(∀ k,k < m->ks.getD k 2 % 3=2->listed.getD k false=true)/\(m=ops.size\/(ks.getD m 2 % 3=2/\listed.getD m false=false))) ->
  (∀ A L,ρ A=some L->ρ0 A=some L\/∃ j,j < ops.size/\listed.getD j false=true/\(H j).size<=A/\A < (H (j+1)).size) ->
  Fr ρ0 ρ h0 h' w0 w->wpAnyIn (WR rl) 0 P .any ops Q fuel listed a w:=by
  intro fuel
  induction fuel with
  |zero =>
   intro listed ρ a w Cj D8 kg kh tL ub qj dL
   have aB:∀ k,k < ops.size->listed.getD k false=true:=by
    intro k hk
    have h1:=List.countP_eq_zero.1 (Nat.le_zero.1 D8) k (rj.2 hk)
    simpa using h1
   refine ⟨?_,fin listed ρ a w aB kh tL ub dL⟩
   apply List.eq_nil_iff_forall_not_mem.2
   intro i hi
   rw [mem_ready] at hi
   obtain ⟨h1,o,ho,_⟩:=hi
   have aT:i < ops.size:=(mU.1 ho).1
   have h2:=aB i aT
   have:i < listed.size:=by omega
   simp [this] at h1 h2
   rw [h2] at h1
   cases h1
  |succ fuel ih =>
   intro listed ρ a w Cj D8 kg kh tL ub qj dL
   refine ⟨λhr=>fin listed ρ a w (xB listed Cj hr) kh tL ub dL,?_⟩
   intro i hi
   rw [mem_ready] at hi
   obtain ⟨wE,o,ho,mG⟩:=hi
   have Kp:i < ops.size:=(mU.1 ho).1
   have GN:listed.getD i false=false:=by
    have:i < listed.size:=by omega
    simp [this] at wE ⊢
    exact wE
   have Cq:∀ e∈o.after.toList,Region.binds .any e=true->listed.getD e.on false=true:=λe he hb=>mG e (by simpa using he) hb
   have qg:∀ k,(listed.setIfInBounds i true).getD k false=(decide (k=i) || listed.getD k false):=by
    intro k
    by_cases hk:k=i
    .subst hk
     have:k < listed.size:=by omega
     simp [this]
    .simp [HP (Ne.symm hk),hk]
   have lW:∀ k ok,k < i->ops[k]? = some ok->listed.getD k false=false->ok.apart ops o=true/\nD (ks.getD k 2) (ks.getD i 2)=true:=by
    intro k ok rK eP hk
    rcases wQ k i ok o rK eP ho with h1|h1
    .have:=X2 (S:=λj=>listed.getD j false=true) mu kg i i o k (aR _) ho Cq h1
     rw [hk] at this
     cases this
    .exact h1
   have iT:∀ j oj,i < j->ops[j]? = some oj->listed.getD j false=true->o.apart ops oj=true/\nD (ks.getD i 2) (ks.getD j 2)=true:=by
    intro j oj fw oe hj
    rcases wQ i j o oj fw ho oe with h1|h1
    .have:=X2 (S:=λj=>listed.getD j false=true) mu kg j j oj i (aR _) oe (kg j oj oe hj) h1
     rw [GN] at this
     cases this
    .exact h1
   have Ci:∀ t,t∈o.looksAt ops->(eS e0 dst V (λk=>listed.getD k false) ops.size).get t=(E i).get t:=by
    intro t ht
    have p1:∀ k,k<=i->(eS e0 dst V (λk=>listed.getD k false) k).get t=(E k).get t:=by
     intro k
     induction k with
     |zero=>intro _;rw [TW];rfl
     |succ k nf =>
      intro hk
      obtain ⟨ok,eP⟩:=eK k (by omega)
      rw [B5 k ok eP]
      simp only [eS]
      split
      .exact Xf (by rw [FH,JX k (by omega)]) (nf (by omega))
      .rename_i ju
       rw [nf (by omega),Hq]
       intro hd
       have DX:=(Oper.apart_spec (lW k ok (by omega) eP (by simpa using ju)).1).1
       exact DX t (by simpa [dst,eP] using hd) ht
    have p2:∀ k,i<=k->k<=ops.size->(eS e0 dst V (λk=>listed.getD k false) k).get t=(eS e0 dst V (λk=>listed.getD k false) i).get t:=by
     intro k tR
     induction tR with
     |refl=>intro _;rfl
     |step tR nf =>
      rename_i k
      intro hk
      obtain ⟨ok,eP⟩:=eK k (by omega)
      simp only [eS]
      split
      .rename_i ju
       rw [Hq,nf (by omega)]
       intro hd
       have aM:i≠k:=λe=>by subst e;rw [GN] at ju;cases ju
       have UL:i<=k:=tR
       have DX:=(Oper.apart_spec (iT k ok (by omega) eP ju).1).2.2
       exact DX t (by simpa [dst,eP] using hd) ht
      .exact nf (by omega)
    rw [p2 _ (by omega) (aR _),p1 i (aR _)]
   have Co:∀ x∈o.op.operands.toList,bz (eS e0 dst V (λk=>listed.getD k false) ops.size) x=bz (E i) x:=by
    intro x hx
    cases x with
    |tmp t=>exact Ci t (zq8 hx)
    |_=>rfl
   have K6:ma ops o (eS e0 dst V (λk=>listed.getD k false) ops.size)=ma ops o (E i):=by
    unfold ma
    cases hgd:o.guard with
    |none=>rfl
    |some g =>
     obtain ⟨j,b⟩:=g
     simp only
     cases hdj:(ops[j]?).bind (·.dst) with
     |none=>rfl
     |some t =>
      simp only
      rw [Ci t (by unfold Oper.looksAt;rw [gg];right;simp [hgd,hdj])]
   have Ko:∀ t,(eS e0 dst V (λk=>(listed.setIfInBounds i true).getD k false) ops.size).get t=(put (eS e0 dst V (λk=>listed.getD k false) ops.size) o.dst (V i)).get t:=by
    intro t
    have hdi:dst i=o.dst:=by simp [dst,ho]
    have p1:∀ k,k<=i->eS e0 dst V (λk=>(listed.setIfInBounds i true).getD k false) k=eS e0 dst V (λk=>listed.getD k false) k:=by
     intro k
     induction k with
     |zero=>intro _;rfl
     |succ k nf =>
      intro hk
      have rK:decide (k=i)=false:=by simp;omega
      cases ju:listed.getD k false with
      |true=>rw [NQ (S:=λk=>(listed.setIfInBounds i true).getD k false) (by show (listed.setIfInBounds i true).getD k false=true;rw [qg k,ju];simp),NQ (S:=λk=>listed.getD k false) ju,nf (by omega)]
      |false=>rw [Ic (S:=λk=>(listed.setIfInBounds i true).getD k false) (by show (listed.setIfInBounds i true).getD k false=false;rw [qg k,ju,rK];rfl),Ic (S:=λk=>listed.getD k false) ju,nf (by omega)]
    have p2:∀ k,i+1<=k->k<=ops.size->(eS e0 dst V (λk=>(listed.setIfInBounds i true).getD k false) k).get t=(put (eS e0 dst V (λk=>listed.getD k false) k) o.dst (V i)).get t:=by
     intro k tR
     induction tR with
     |refl =>
      intro _
      rw [NQ (S:=λk=>(listed.setIfInBounds i true).getD k false) (by show (listed.setIfInBounds i true).getD i false=true;rw [qg i];simp),p1 i (aR _),Ic (S:=λk=>listed.getD k false) GN,hdi]
     |step tR nf =>
      rename_i k
      intro hk
      have UL:i+1<=k:=tR
      obtain ⟨ok,eP⟩:=eK k (by omega)
      have rK:decide (k=i)=false:=by simp;omega
      have AH:=nf (by omega)
      cases ju:listed.getD k false with
      |true =>
       rw [NQ (S:=λk=>(listed.setIfInBounds i true).getD k false) (by show (listed.setIfInBounds i true).getD k false=true;rw [qg k,ju];simp),NQ (S:=λk=>listed.getD k false) ju]
       have DX:=(Oper.apart_spec (iT k ok (by omega) eP ju).1).2.1
       have hdk:dst k=ok.dst:=by simp [dst,eP]
       have hlen:(eS e0 dst V (λk=>(listed.setIfInBounds i true).getD k false) k).length=(eS e0 dst V (λk=>listed.getD k false) k).length:=by rw [FH,FH]
       by_cases Uu:o.dst=some t
       .have aM:dst k≠some t:=by rw [hdk];exact λe=>DX t Uu e
        rw [Hq aM,AH]
        exact Xf (by rw [PS]) (Hq aM).symm
       .rw [Hq Uu] at AH
        rw [Hq Uu]
        exact Xf hlen AH
      |false =>
       rw [Ic (S:=λk=>(listed.setIfInBounds i true).getD k false) (by show (listed.setIfInBounds i true).getD k false=false;rw [qg k,ju,rK];rfl),Ic (S:=λk=>listed.getD k false) ju]
       exact AH
    exact p2 _ (by omega) (aR _)
   have tU:(listed.setIfInBounds i true).size=ops.size:=by simp [Cj]
   have nW:(List.range ops.size).countP (λk => !(listed.setIfInBounds i true).getD k false)<=fuel:=by
    have:=zos (p:=λk => !listed.getD k false) (p':=λk => !(listed.setIfInBounds i true).getD k false) (List.range ops.size)
     (λk _ hk=>by rw [qg k] at hk;simp at hk ⊢;exact hk.2) ⟨i,rj.2 Kp,by rw [GN];rfl,by rw [qg i];simp⟩
    omega
   have kQ:∀ (j:Nat) (oj:Oper),ops[j]? = some oj->(listed.setIfInBounds i true).getD j false=true->∀ e∈oj.after.toList,Region.binds .any e=true->(listed.setIfInBounds i true).getD e.on false=true:=by
    intro j oj oe hj e he hb
    rw [qg e.on]
    rw [qg j] at hj
    by_cases na:j=i
    .subst na
     rw [ho] at oe
     cases oe
     rw [Cq e he hb]
     simp
    .have Cg:listed.getD j false=true:=by simpa [na] using hj
     rw [kg j oj oe Cg e he hb]
     simp
   have nY:∀ (ρ':cI) (u:ai),(∀ A L,ρ A=some L->ρ' A=some L)->VR ρ' (V i) u->cn ρ' (eS e0 dst V (λk=>(listed.setIfInBounds i true).getD k false) ops.size) (a.put o.dst u).tmps:=by
    intro ρ' u OY hv
    have h1:=(kh.mono OY).put hv o.dst
    exact ⟨by rw [FH,<- h1.1,PS,FH],λt=>by rw [Ko t];exact h1.2 t⟩
   have nX:∀ u,(a.put o.dst u).defers=a0.defers:=λu=>by cases o.dst <;> exact tL
   obtain ⟨m,fW,eX,qT,Es⟩:=ub
   have ku:ks.getD i 2 % 3≠2->∀ (ρ':cI) (w':World),bT ρ' (H m) w'->∃ m,m<=ops.size/\bT ρ' (H m) w'/\(∀ k,k < m->ks.getD k 2 % 3=2->(listed.setIfInBounds i true).getD k false=true)/\(m=ops.size\/(ks.getD m 2 % 3=2/\(listed.setIfInBounds i true).getD m false=false)):=by
    intro uS ρ' w' eC
    refine ⟨m,fW,eC,λk h1 h2=>by rw [qg k,qT k h1 h2];simp,?_⟩
    rcases Es with h1|⟨h1,h2⟩
    .exact .inl h1
    .refine .inr ⟨h1,?_⟩
     have:m≠i:=λe=>by rw [e] at h1;exact uS h1
     rw [qg m,h2]
     simp [this]
   have jf:∀ (ρ':cI),(∀ A L,ρ' A=some L->ρ A=some L\/((H i).size<=A/\A < (H (i+1)).size)) ->
    ∀ A L,ρ' A=some L->ρ0 A=some L\/∃ j,j < ops.size/\(listed.setIfInBounds i true).getD j false=true/\(H j).size<=A/\A < (H (j+1)).size:=by
    intro ρ' xk A L hA
    rcases xk A L hA with h1|h1
    .rcases qj A L h1 with h2|⟨j,h2,h3,h4⟩
     .exact .inl h2
     .exact .inr ⟨j,h2,by rw [qg j,h3];simp,h4⟩
    .exact .inr ⟨i,Kp,by rw [qg i];simp,h1⟩
   have oZ:∀ A,(H i).size<=A->A < (H (i+1)).size->ρ A=none:=by
    intro A h1 h2
    cases hA:ρ A with
    |none=>rfl
    |some L =>
     exfalso
     rcases qj A L hA with h3|⟨j,h3,h4,h5,h6⟩
     .have h7:=(cC 0 i (by omega) (by omega)).size
      have h8:=(cC (i+1) ops.size (by omega) (aR _)).size
      rw [zK] at h7
      rw [yl] at h8
      rw [OX A (by omega) (by omega)] at h3
      cases h3
     .have na:j≠i:=λe=>by subst e;rw [GN] at h4;cases h4
      rcases mW j i with aT|tN
      .have:=(cC (j+1) i (by omega) (by omega)).size
       omega
      .have:=(cC (i+1) j (by omega) (by omega)).size
       omega
   unfold wpOpIn
   simp only [ho]
   rw [zpV kh,K6]
   rcases mI i o ho with ⟨fT,h2,kR,OK,_,hk⟩|⟨fT,hv,OK,_,hk⟩
   .rw [aD fT]
    have og:kG ρ o:=(cV o (by simpa using Array.mem_of_getElem? ho)).mono dL.grow
    have hG:=hG0.mono dL.grow
    have wx:∀ hx,gD P T C (eS e0 dst V (λk=>listed.getD k false) ops.size) o hx=gD P T C (E i) o hx:=λhx=>zoH hx Co
    by_cases hb:pO T o=true
    .rw [zjC hb] at hk
     have wu:=(Xr hb kR).2 (H m)
     have ju:ks.getD i 2 % 3≠2:=by omega
     have tZ:=Fx (h':=H m) hT hC hG eX kh og (λA h1 h2=>by omega) (by rw [wx];exact wu)
     refine tZ.wp (FB kR) λρ' u w' f1 s1 v1=>?_
     have fX:∀ A L,ρ' A=some L->ρ A=some L:=by
      intro A L hA
      cases hρ:ρ A with
      |some L1=>have:=f1.grow A L1 hρ;rw [hA] at this;exact this.symm
      |none=>have:=f1.fresh A L hA hρ;omega
     refine ih _ ρ' _ w' tU nW kQ (nY ρ' u f1.grow v1) (nX u) (ku ju ρ' w' s1) (jf ρ' λA L hA=>.inl (fX A L hA)) ?_
     have k1:=cC m ops.size fW (aR _)
     have k2:=cC 0 m (by omega) fW
     rw [yl] at k1
     rw [zK] at k2
     exact dL.step f1 k1.low k1.size k2.size
    .have kI:=cC i ops.size (by omega) (aR _)
     have Pk:=cC (i+1) ops.size (by omega) (aR _)
     have Pj:=cC 0 i (by omega) (by omega)
     rw [yl] at kI Pk
     rw [zK] at Pj
     have ER:(H (i+1)).size=h2.size:=by rw [OK]
     have sJ:h'.low<=h2.low:=by
      have h3:=Pk.low
      rw [OK] at h3
      exact eA h3 (Ii _ _)
     have wB:∀ A,(H (i+1)).get A=h2.get A:=λA=>by rw [OK];rfl
     by_cases fJ:(H i).size<=h2.low
     ./- it turns nothing that is there -/
      obtain ⟨pI,uS,rL⟩:=XT (T:=T) (e:=E i) hb fJ
      rw [<- hk] at pI uS rL
      by_cases Ea:m < i
      ./- a load of one block, ahead of what turns another -/
       obtain ⟨hmk,yu⟩:ks.getD m 2 % 3=2/\listed.getD m false=false:=by
        rcases Es with h3|h3
        .omega
        .exact h3
       obtain ⟨om,G2⟩:=eK m (by omega)
       have vZ:∀ k ok,m < k->ops[k]? = some ok->listed.getD k false=true->ks.getD k 2 % 3=0:=by
        intro k ok h3 eP h7
        rcases wQ m k om ok h3 G2 eP with h8|h8
        .have:=X2 (S:=λj=>listed.getD j false=true) mu kg k k ok m (aR _) eP (kg k ok eP h7) h8
         rw [yu] at this
         cases this
        .have:=HK hmk h8.2
         omega
       have Kt:∀ k,m<=k->k < ops.size->ks.getD k 2 % 3=2->listed.getD k false=false:=by
        intro k h3 h4 h5
        by_cases h6:k=m
        .rw [h6];exact yu
        .cases h7:listed.getD k false with
         |false=>rfl
         |true =>
          exfalso
          obtain ⟨ok,eP⟩:=eK k h4
          have:=vZ k ok (by omega) eP h7
          omega
       have akQ:=HK hmk (lW m om Ea G2 yu).2
       obtain ⟨t,a',x,aQ,hx,hkv⟩:∃ t a x,o.op=.load t a/\bz (E i) a=.pointer (some x)/\ks.getD i 2=3+3*x.block:=by
        rcases rL with h3|h3|⟨_,h3⟩
        .omega
        .exact h3
        .omega
       have ou:∀ k,m<=k->k < i->ks.getD k 2 % 3=2->5<=ks.getD k 2/\ks.getD i 2+2≠ks.getD k 2:=by
        intro k h3 h4 h5
        obtain ⟨ok,eP⟩:=eK k (by omega)
        have:=HK h5 (lW k ok h4 eP (Kt k h3 (by omega) h5)).2
        omega
       have rI:=kR
       unfold gD at rI
       simp only [aQ,hx,ct,cQ] at rI
       obtain ⟨r,hr,KQ,_⟩:=rI
       have aT:x.block < (H i).size:=zsz hr
       have hρx:∃ L,ρ x.block=some L:=by
        have B7:a'∈o.op.operands.toList:=by rw [aQ];simp [Op.operands]
        have h3:=kh.operand (og a' B7)
        rw [Co a' B7,hx] at h3
        generalize a.eval a'=u at h3
        cases h3 with
        |ptr h=>exact ⟨_,h⟩
       have U1:x.block < (H m).size:=by
        obtain ⟨L,hL⟩:=hρx
        rcases qj x.block L hL with h3|⟨j,h3,h4,h5,h6⟩
        .have h7:=(cC 0 m (by omega) fW).size
         rw [zK] at h7
         rcases mW x.block h0.size with h8|h8
         .omega
         .have h9:=kI.size
          rw [OX x.block h8 (by omega)] at h3
          cases h3
        .rcases Gh j m with h7|h7|h7
         .have:=(cC (j+1) m (by omega) fW).size
          omega
         .rw [h7,yu] at h4
          cases h4
         .obtain ⟨oj,oe⟩:=eK j h3
          have:=((mI j oj oe).still (vZ j oj h7 oe h4)).1
          omega
       have zN:(H i).get x.block=(H m).get x.block:=by
        have K9:∀ d,m+d<=i->(H (m+d)).get x.block=(H m).get x.block:=by
         intro d
         induction d with
         |zero=>intro _;rfl
         |succ d E6 =>
          intro hd
          obtain ⟨ok,eP⟩:=eK (m+d) (by omega)
          have h8:x.block < (H (m+d)).size:=dr U1 (cC m (m+d) (by omega) (by omega)).size
          rw [<- E6 (by omega)]
          by_cases h9:ks.getD (m+d) 2 % 3=2
          .have h10:=ou (m+d) (by omega) (by omega) h9
           exact (mI (m+d) ok eP).other h9 h10.1 x.block h8 (by omega)
          .exact (mI (m+d) ok eP).same hg h9 x.block h8
        have h7:=K9 (i - m) (by omega)
        rwa [show m+(i - m)=i by omega] at h7
       have wu:gD P T C (E i) o (H m)=some (V i,H m):=by
        unfold gD
        simp only [aQ,hx,ct,cQ]
        refine ⟨r,?_,KQ,trivial⟩
        rw [zjG (h:={ H i with low:=(H i).size }) (by rw [Heap.jg];exact zN.symm)]
        exact hr
       have tZ:=Fx (h':=H m) hT hC hG eX kh og (λA h1 h2=>by omega) (by rw [wx];exact wu)
       refine tZ.wp (FB kR) λρ' u w' f1 s1 v1=>?_
       have fX:∀ A L,ρ' A=some L->ρ A=some L:=by
        intro A L hA
        cases hρ:ρ A with
        |some L1=>have:=f1.grow A L1 hρ;rw [hA] at this;exact this.symm
        |none=>have:=f1.fresh A L hA hρ;omega
       refine ih _ ρ' _ w' tU nW kQ (nY ρ' u f1.grow v1) (nX u) (ku pI ρ' w' s1) (jf ρ' λA L hA=>.inl (fX A L hA)) ?_
       have k1:=cC m ops.size fW (aR _)
       have k2:=cC 0 m (by omega) fW
       rw [yl] at k1
       rw [zK] at k2
       exact dL.step f1 k1.low k1.size k2.size
      have tS:i < m:=by
       rcases Es with h3|⟨h3,h4⟩
       .omega
       .rcases mW i m with h5|h5
        .exact h5
        .exfalso
         have aM:m≠i:=λe=>by rw [e] at h3;exact pI h3
         omega
      have ou:∀ k,i<=k->k < m->ks.getD k 2 % 3=2->5<=ks.getD k 2/\((ks.getD i 2 % 3=0/\3<=ks.getD i 2/\ks.getD i 2+2≠ks.getD k 2)\/(ks.getD i 2 % 3=1/\3<=ks.getD i 2/\ks.getD k 2+2<=ks.getD i 2)):=by
       intro k h3 h4 h5
       have aM:k≠i:=λe=>by rw [e] at h5;exact pI h5
       have h6:=qT k h4 h5
       obtain ⟨ok,eP⟩:=eK k (by omega)
       rcases zwU h5 (iT k ok (by omega) eP h6).2 with h8|h8
       .exact (uS h8).elim
       .exact h8
      have zN:∀ (B j:Nat),i<=j->j<=m->B < (H j).size->(∀ k,i<=k->k < m->ks.getD k 2 % 3=2->5+3*B≠ks.getD k 2)->(H m).get B=(H j).get B:=by
       intro B j h3 h4 h5 h6
       have hx:∀ d,j+d<=m->(H (j+d)).get B=(H j).get B:=by
        intro d
        induction d with
        |zero=>intro _;rfl
        |succ d E6 =>
         intro hd
         obtain ⟨ok,eP⟩:=eK (j+d) (by omega)
         have h7:=E6 (by omega)
         have h8:B < (H (j+d)).size:=dr h5 (cC j (j+d) (by omega) (by omega)).size
         rw [<- h7]
         by_cases h9:ks.getD (j+d) 2 % 3=2
         .exact (mI (j+d) ok eP).other h9 (ou (j+d) (by omega) (by omega) h9).1 B h8 (h6 (j+d) (by omega) (by omega) h9)
         .exact (mI (j+d) ok eP).same hg h9 B h8
       have h7:=hx (m - j) (by omega)
       rwa [show j+(m - j)=m by omega] at h7
      by_cases oh:∃ t a x,o.op=.load t a/\bz (E i) a=.pointer (some x)/\ks.getD i 2=3+3*x.block
      .obtain ⟨t,a',x,aQ,hx,hkv⟩:=oh
       have wu:gD P T C (E i) o (H m)=some (V i,H m):=by
        unfold gD at kR ⊢
        simp only [aQ,hx,ct,cQ] at kR ⊢
        obtain ⟨r,hr,h3,_⟩:=kR
        refine ⟨r,?_,h3,trivial⟩
        have aT:x.block < (H i).size:=zsz hr
        rw [zjG (h:={ H i with low:=(H i).size }) (by rw [Heap.jg];exact zN x.block i (aR _) (by omega) aT (λk h4 h5 h6=>by have:=(ou k h4 h5 h6).2;omega))]
        exact hr
       have tZ:=Fx (h':=H m) hT hC hG eX kh og (λA h1 h2=>by omega) (by rw [wx];exact wu)
       refine tZ.wp (FB kR) λρ' u w' f1 s1 v1=>?_
       have fX:∀ A L,ρ' A=some L->ρ A=some L:=by
        intro A L hA
        cases hρ:ρ A with
        |some L1=>have:=f1.grow A L1 hρ;rw [hA] at this;exact this.symm
        |none=>have:=f1.fresh A L hA hρ;omega
       refine ih _ ρ' _ w' tU nW kQ (nY ρ' u f1.grow v1) (nX u) (ku pI ρ' w' s1) (jf ρ' λA L hA=>.inl (fX A L hA)) ?_
       have k1:=cC m ops.size fW (aR _)
       have k2:=cC 0 m (by omega) fW
       rw [yl] at k1
       rw [zK] at k2
       exact dL.step f1 k1.low k1.size k2.size
      have U5:∃ hx DQ:Heap,hx.size=(H i).size/\bT ρ hx w/\gD P T C (E i) o hx=some (V i,DQ)/\DQ.size=h2.size/\h'.low<=DQ.low/\(H i).size<=DQ.low/\∀ A,(H i).size<=A->A < h2.size->(H m).get A=DQ.get A:=by
       rcases rL with h3|h3|⟨⟨t,n,ps,aQ⟩,hkv⟩
       .have jO:∀ k,i<=k->k < m->ks.getD k 2 % 3≠2:=by
         intro k h4 h5 h6
         have:=(ou k h4 h5 h6).2
         omega
        have hgI:∀ A,A < (H i).size->(H m).get A=(H i).get A:=fX i m (by omega) fW jO
        have Eg:∀ A,A < (H (i+1)).size->(H m).get A=(H (i+1)).get A:=fX (i+1) m (by omega) fW (λk h3 h4=>jO k (by omega) h4)
        refine ⟨{ H i with low:=(H i).size },h2,rfl,?_,kR,rfl,sJ,fJ,λA h4 h5=>by rw [Eg A (by omega),wB A]⟩
        refine eX.swap λA L hA=>?_
        rw [Heap.jg]
        rcases mW A (H i).size with h3|h3
        .exact .inl (hgI A h3).symm
        .right
         unfold Heap.get
         rw [az (by omega)]
       .exact (oh h3).elim
       .have alp:=(cC i m (by omega) fW).size
        have rI:=kR
        unfold gD at rI
        simp only [aQ] at rI
        obtain ⟨b,iB,Ca⟩:=zjg (h1:=(⟨(H i).size,(H m).tr,(H i).size⟩:Heap)) rI rfl
        have wI:h2.low=(H i).size:=by rw [iB];rfl
        have xa:h2.size=(H i).size+1:=by rw [iB];rfl
        refine ⟨⟨(H i).size,(H m).tr,(H i).size⟩,_,rfl,?_,by unfold gD;simp only [aQ];exact Ca,by rw [xa];rfl,by rw [wI] at sJ;exact sJ,aR _,λA h4 h5=>?_⟩
        .refine eX.swap λA L hA=>?_
         unfold Heap.get
         rcases mW A (H i).size with h3|h3
         .left
          rw [aD h3,aD (by omega)]
         .right
          rw [az (show ¬ A < (H i).size by omega)]
        .have hA:A=(H i).size:=by omega
         subst hA
         rw [zN _ (i+1) (by omega) (by omega) (by rw [ER,xa];omega) (λk h6 h7 h8=>by have:=(ou k h6 h7 h8).2;omega),wB,iB,Heap.bA,Heap.bA,aD rfl,aD rfl]
      obtain ⟨hx,DQ,oB,wY,Uz,h2s,wI,UH,hN⟩:=U5
      have tZ:=Fx (h':=DQ) hT hC hG wY kh og (λA h3 h4=>oZ A (by omega) (by omega)) (by rw [wx];exact Uz)
      refine tZ.wp (FB kR) λρ' u w' f1 s1 v1=>?_
      have mD:∀ A L,ρ' A=some L->ρ A=none->(H i).size<=A/\A < h2.size/\w.heap.size<=L.b:=by
       intro A L hA hn
       obtain ⟨h3,h4,h5⟩:=f1.fresh A L hA hn
       refine ⟨by omega,by omega,?_⟩
       rcases h5 with h5|⟨A0,L0,h6,_,h7,h8⟩
       .exact h5
       .rw [oZ A0 (by omega) (by omega)] at h6
        cases h6
      have EY:∀ b,b < w.heap.size->w'.heap[b]? = w.heap[b]? := by
       intro b lU
       refine f1.keep b lU λA L hA _=>?_
       rcases mW A (H i).size with h3|h3
       .left;omega
       .right
        rcases mW A h2.size with h4|h4
        .rw [oZ A h3 (by omega)] at hA;cases hA
        .omega
      have wX:bT ρ' (H m) w':=by
       refine ⟨λA L hA=>?_,λA A' L L' hA fk aM lV=>?_⟩
       .cases hρ:ρ A with
        |none =>
         obtain ⟨h3,h4,_⟩:=mD A L hA hρ
         rw [hN A h3 h4]
         exact s1.lR A L hA
        |some L1 =>
         have e:L1=L:=by have:=f1.grow A L1 hρ;rw [hA] at this;exact (Option.some.inj this).symm
         subst e
         exact (eX.lR A L1 hρ).keep f1.grow f1.size λ_=>EY L1.b (eX.lt hρ)
       .cases hρ:ρ A with
        |none =>
         obtain ⟨h3,h4,h5⟩:=mD A L hA hρ
         cases xk:ρ A' with
         |none =>
          obtain ⟨h6,h7,h8⟩:=mD A' L' fk xk
          have hx:=s1.inj A A' L L' hA fk aM lV
          unfold live nC at hx ⊢
          rw [hN A h3 h4,hN A' h6 h7]
          exact hx
         |some L1 =>
          have e:L1=L':=by have:=f1.grow A' L1 xk;rw [fk] at this;exact (Option.some.inj this).symm
          subst e
          have:=eX.lt xk
          omega
        |some L1 =>
         have e:L1=L:=by have:=f1.grow A L1 hρ;rw [hA] at this;exact (Option.some.inj this).symm
         subst e
         cases xk:ρ A' with
         |none =>
          obtain ⟨h6,h7,h8⟩:=mD A' L' fk xk
          have:=eX.lt hρ
          omega
         |some L2 =>
          have e:L2=L':=by have:=f1.grow A' L2 xk;rw [fk] at this;exact (Option.some.inj this).symm
          subst e
          exact eX.inj A A' L1 L2 hρ xk aM lV
      refine ih _ ρ' _ w' tU nW kQ (nY ρ' u f1.grow v1) (nX u) ?_ (jf ρ' λA L hA=>?_) (dL.step f1 wI (by have:=Pk.size;omega) (by rw [oB];exact Pj.size))
      .refine ⟨m,fW,wX,λk h3 h4=>by rw [qg k,qT k h3 h4];simp,?_⟩
       rcases Es with h3|⟨h3,h4⟩
       .exact .inl h3
       .refine .inr ⟨h3,?_⟩
        rw [qg m,h4,show decide (m=i)=false by simp;omega]
        rfl
      .cases hρ:ρ A with
       |none=>right;have:=mD A L hA hρ;omega
       |some L1=>left;have:=f1.grow A L1 hρ;rw [hA] at this;rw [this]
     .obtain ⟨pI,_⟩:=P2 (T:=T) (e:=E i) hb fJ
      rw [<- hk] at pI
      have O5:m=i:=by
       rcases Gh m i with h3|h3|h3
       .exfalso
        rcases Es with h4|⟨h4,h5⟩
        .omega
        .obtain ⟨om,G2⟩:=eK m (by omega)
         have:=HK h4 (lW m om h3 G2 h5).2
         omega
       .exact h3
       .have:=qT i h3 pI
        rw [GN] at this
        cases this
      subst O5
      have wY:bT ρ { H m with low:=(H m).size } w:=eX.swap λA L _=>.inl rfl
      have tZ:=Fx (h':=h2) hT hC hG wY kh og (λA h3 h4=>oZ A h3 (by omega)) (by rw [wx];exact kR)
      refine tZ.wp (FB kR) λρ' u w' f1 s1 v1=>?_
      have od:∃ m',m+1<=m'/\m'<=ops.size/\(∀ k,m+1<=k->k < m'->ks.getD k 2 % 3≠2)/\(m'=ops.size\/ks.getD m' 2 % 3=2):=by
       have hx:∀ d,d<=ops.size - (m+1)->(∀ k,m+1<=k->k < m+1+d->ks.getD k 2 % 3≠2)\/∃ m',m+1<=m'/\m'<=ops.size/\(∀ k,m+1<=k->k < m'->ks.getD k 2 % 3≠2)/\(m'=ops.size\/ks.getD m' 2 % 3=2):=by
        intro d
        induction d with
        |zero=>intro _;left;intro k h3 h4;omega
        |succ d E6 =>
         intro hd
         rcases E6 (by omega) with h3|h3
         .by_cases h4:ks.getD (m+1+d) 2 % 3=2
          .exact .inr ⟨m+1+d,by omega,by omega,h3,.inr h4⟩
          .left
           intro k h5 h6
           by_cases h7:k=m+1+d
           .rw [h7];exact h4
           .exact h3 k h5 (by omega)
         .exact .inr h3
       rcases hx (ops.size - (m+1)) (aR _) with h3|h3
       .exact ⟨ops.size,by omega,aR _,λk h4 h5=>h3 k h4 (by omega),.inl rfl⟩
       .exact h3
      obtain ⟨m',U2,Er,Kx,U3⟩:=od
      have Eg:∀ A,A < (H (m+1)).size->(H m').get A=(H (m+1)).get A:=fX (m+1) m' U2 Er Kx
      have zS:∀ A L,ρ A=some L->A < h2.size\/(ρ0 A=some L/\h'.size<=A):=by
       intro A L hA
       rcases qj A L hA with h3|⟨j,h3,h4,h5,h6⟩
       .rcases mW A h2.size with h7|h7
        .exact .inl h7
        .rcases mW A h'.size with h8|h8
         .have h9:=Pj.size
          have h10:=(cC m (m+1) (by omega) (by omega)).size
          rw [OX A (by omega) h8] at h3
          cases h3
         .exact .inr ⟨h3,h8⟩
       .left
        rcases mW j (m+1) with h7|h7
        .have:=(cC (j+1) (m+1) (by omega) (by omega)).size
         omega
        .exfalso
         obtain ⟨oj,oe⟩:=eK j h3
         have h9:ks.getD j 2 % 3=0:=by
          have:=HK pI (iT j oj (by omega) oe h4).2
          omega
         have:=((mI j oj oe).still h9).1
         omega
      have wX:bT ρ' (H m') w':=by
       refine s1.swap λA L hA=>?_
       have fk:A < h2.size\/h'.size<=A:=by
        cases hρ:ρ A with
        |none=>left;exact (f1.fresh A L hA hρ).2.1
        |some L1 =>
         rcases zS A L1 hρ with h3|h3
         .exact .inl h3
         .exact .inr h3.2
       rcases fk with h3|h3
       .left
        rw [Eg A (by omega),wB A]
       .right
        have h4:=(cC m' ops.size Er (aR _)).size
        rw [yl] at h4
        unfold Heap.get
        rw [az (by omega)]
      refine ih _ ρ' _ w' tU nW kQ (nY ρ' u f1.grow v1) (nX u) ⟨m',Er,wX,?_,?_⟩ (jf ρ' λA L hA=>?_) (dL.step f1 sJ (by have:=Pk.size;omega) Pj.size)
      .intro k h3 h4
       rw [qg k]
       rcases mW k (m+1) with h5|h5
       .by_cases h6:k=m
        .simp [h6]
        .rw [qT k (by omega) h4];simp
       .exact (Kx k h5 h3 h4).elim
      .rcases U3 with h3|h3
       .exact .inl h3
       .rcases mW m' ops.size with h4|h4
        .refine .inr ⟨h3,?_⟩
         rw [qg m',show decide (m'=m)=false by simp;omega,Gw]
         cases lU:listed.getD m' false with
         |false=>rfl
         |true =>
          exfalso
          obtain ⟨om,G2⟩:=eK m' h4
          have:=HK pI (iT m' om (by omega) G2 lU).2
          omega
        .exact .inl (by omega)
      .cases hρ:ρ A with
       |none =>
        right
        obtain ⟨h3,h4,_⟩:=f1.fresh A L hA hρ
        have vS:(H m).size<=A:=h3
        omega
       |some L1=>left;have:=f1.grow A L1 hρ;rw [hA] at this;rw [this]
   .rw [az (by rw [fT];simp)]
    refine ⟨λ_ _=>trivial,?_⟩
    have hu:VR ρ (V i) undef:=by rw [hv];exact .undef ρ
    exact ih _ ρ _ w tU nW kQ (nY ρ undef (λ_ _ h=>h) hu) (nX undef) (ku (by omega) ρ w eX) (jf ρ λA L hA=>.inl hA) dL
 have uS:=cC 0 ops.size (by omega) (aR _)
 rw [zK,yl] at uS
 have rJ:∀ k,(Array.replicate ops.size false).getD k false=false:=by
  intro k
  rcases mW k ops.size with h1|h1 <;> simp [h1]
 have qo:∀ k,eS e0 dst V (λk=>(Array.replicate ops.size false).getD k false) k=e0:=by
  intro k
  induction k with
  |zero=>rfl
  |succ k ih=>rw [Ic (S:=λk=>(Array.replicate ops.size false).getD k false) (rJ k),ih]
 refine main ops.size _ ρ0 a0 _ (by simp) (by have:=List.countP_le_length (p:=λk => !(Array.replicate ops.size false).getD k false) (l:=List.range ops.size);simpa using this) ?_ ?_ rfl ?_ ?_ ?_
 .intro j o _ hj
  rw [rJ j] at hj
  cases hj
 .rw [qo];exact wq
 ./- the first that may turn something -/
  have Ec:∃ m,m<=ops.size/\(∀ k,k < m->ks.getD k 2 % 3≠2)/\(m=ops.size\/ks.getD m 2 % 3=2):=by
   have hx:∀ d,d<=ops.size->(∀ k,k < d->ks.getD k 2 % 3≠2)\/∃ m,m<=ops.size/\(∀ k,k < m->ks.getD k 2 % 3≠2)/\(m=ops.size\/ks.getD m 2 % 3=2):=by
    intro d
    induction d with
    |zero=>intro _;left;intro k h4;omega
    |succ d E6 =>
     intro hd
     rcases E6 (by omega) with h3|h3
     .by_cases h4:ks.getD d 2 % 3=2
      .exact .inr ⟨d,by omega,h3,.inr h4⟩
      .left
       intro k h6
       by_cases h7:k=d
       .rw [h7];exact h4
       .exact h3 k (by omega)
     .exact .inr h3
   rcases hx ops.size (aR _) with h3|h3
   .exact ⟨ops.size,aR _,h3,.inl rfl⟩
   .exact h3
  obtain ⟨m,fW,eX,qT⟩:=Ec
  refine ⟨m,fW,?_,λk h1 h2=>(eX k h1 h2).elim,?_⟩
  .have ji:bT ρ0 h0 { w0 with drawn:=w0.drawn+1 }:=hs0.same rfl
   refine ji.swap λA L hA=>?_
   rcases mW A h0.size with h1|h1
   .left
    have:=fX 0 m (by omega) fW (λk _ h3=>eX k h3) A (by rw [zK];exact h1)
    rw [this,zK]
   .rcases mW A h'.size with h2|h2
    .rw [OX A h1 h2] at hA;cases hA
    .right
     have h4:=(cC m ops.size fW (aR _)).size
     rw [yl] at h4
     unfold Heap.get
     rw [az (by omega)]
  .rcases qT with h1|h1
   .exact .inl h1
   .exact .inr ⟨h1,rJ m⟩
 .intro A L hA;exact .inl hA
 .exact ⟨λ_ _ h=>h,λA L h1 h2=>(by rw [h1] at h2;cases h2),rfl,rfl,rfl,aR _,uS.size,uS.low,λ_ _ _=>rfl,uS.get⟩
end
end Go.Am
namespace Go.Am
open Go.RowKit
variable {C:Fn->List ai->Heap->Option (ai × Heap)} {v:ai} {h h':Heap} {E:Code->Env->Heap->Option (Ex × Env × Heap)} {fn:Func} {ρ:cI}

abbrev Ov:=FuncId->Option (List ai->Heap->Option (ai × Heap))

def i3:Env->List Tmp->List ai->Env
 |e,t::ts,v::vs=>i3 (e.set t v) ts vs
 |e,_,_=>e
def CN (A:Nat) (jump:Option Code) (h:Heap):Option (ai × Heap) :=
 match h.get A with
 |some (.loop env ps assign body _ _)=>some (.bool jump.isNone,h.set A (.loop env ps assign body (if jump.isNone then .ready else .done) jump))
 |_=>none
def Dc (E:Code->Env->Heap->Option (Ex × Env × Heap)) (A:Nat) (args:List ai) (h:Heap):Option (ai × Heap) :=
 match h.get A with
 |some (.loop env ps assign body _ _) =>
  if args.length=ps.length then
   match E assign (i3 env ps args) h with
   |some (.normal,e1,h1)=>match h1.get A with
    |some (.loop rF Fm oL vI .ready kq) =>
     (match E body e1 (h1.set A (.loop rF Fm oL vI .busy kq)) with
     |some (.normal,_,h2)=>CN A none h2
     |some (.ret,_,h2)=>CN A (some .ret) h2
     |some (.exit id,_,h2)=>CN A (some (.exit id)) h2
     |none=>none)
    |_=>none
   |_=>none
  else none
 |_=>none

def YS (d:Oper):Option Tmp:=match d.op with
 | .defer ⟨.value (.tmp t),args,_⟩=>if args.isEmpty && d.guard.isNone && d.dst.isNone then some t else none
 |_=>none
def Bx:Code->Option (List Code × Oper × Tmp × Code)
 | .seq (.region id ops false) b=>(match ops.toList with
  | [m,d]=>(match YS d with
   |some t=>if m.guard.isNone then some ([],m,t,b) else (Bx b).map λ(pre,m,t,r)=>(.region id ops false::pre,m,t,r)
   |none=>(Bx b).map λ(pre,m,t,r)=>(.region id ops false::pre,m,t,r))
  |_=>(Bx b).map λ(pre,m,t,r)=>(.region id ops false::pre,m,t,r))
 | .seq a b=>(Bx b).map λ(pre,m,t,r)=>(a::pre,m,t,r)
 |_=>none
def ux (E:Code->Env->Heap->Option (Ex × Env × Heap)):List Code->Env->Heap->Option (Env × Heap)
 | [],e,h=>some (e,h)
 |c::cs,e,h=>match E c e h with
  |some (.normal,e',h')=>ux E cs e' h'
  |_=>none
section
variable (P:Program) (T:bJ)
def uF (E:Code->Env->Heap->Option (Ex × Env × Heap)) (fn:Func) (g:ai) (e3:Env) (h3:Heap):Option (ai × Heap) :=
 match g with
 | .func (.func g) fi ca=>(T.fn g).bind λfg=>fg.body.bind λcg=>if mR cg then
  (match E cg ((fi.toList++ca.toList)++List.replicate (fg.ntmps - (fi.toList++ca.toList).length) undef) h3 with
  |some (.ret,e4,h4)=>(nI T fg e4 h4).bind λ_=>(nI T fn e3 h4).map λv=>(v,h4)
  |some (.normal,e4,h4)=>(nI T fg e4 h4).bind λ_=>(nI T fn e3 h4).map λv=>(v,h4)
  |_=>none)
  else none
 |_=>none
def C9 (E:Code->Env->Heap->Option (Ex × Env × Heap)) (C:Fn->List ai->Heap->Option (ai × Heap)) (fn:Func) (c:Code) (e:Env) (h:Heap):Option (ai × Heap) :=
 (Bx c).bind λ(pre,m,t,rest)=>if pre.all mR && mR rest then
  (ux E pre e h).bind λ(e1,h1)=>(gD P T C e1 m h1).bind λ(v,h2) =>
   match E rest (put e1 m.dst v) h2 with
   |some (.ret,e3,h3)=>uF T E fn ((put e1 m.dst v).get t) e3 h3
   |some (.normal,e3,h3)=>uF T E fn ((put e1 m.dst v).get t) e3 h3
   |_=>none
 else none
end

def call (P:Program) (T:bJ) (ov:Ov):Nat->Fn->List ai->Heap->Option (ai × Heap)
 |0,_,_,_=>none
 |n+1,.func f,args,h =>
  match ov f with
  |some g=>g args h
  |none =>
   (T.fn f).bind λfn=>fn.body.bind λc =>
   if T.Jy f then C9 P T (dV P T (call P T ov n) (pP P T (call P T ov n)) none n) (call P T ov n) fn c (args++List.replicate (fn.ntmps - args.length) undef) h else
   match dV P T (call P T ov n) (pP P T (call P T ov n)) none n c (args++List.replicate (fn.ntmps - args.length) undef) h with
   |some (.ret,e,h')=>(nI T fn e h').map λv=>(v,h')
   |some (.normal,e,h')=>(nI T fn e h').map λv=>(v,h')
   |_=>none
 |n+1,.yield A,args,h=>Dc (dV P T (call P T ov n) (pP P T (call P T ov n)) (some A) n) A args h
 |_,_,_,_=>none

def BJ (P:Program) (gs:List Nat) (ov:Ov):Prop :=
 ∀ f g,ov f=some g->∀ args h v h',g args h=some (v,h')->bt h h'/\∀ ρ w (aL:Array ai),cY gs ρ->bT ρ h w->fA ρ h h'->cL ρ args aL.toList->WW P ρ h h' w v f aL

section
variable {P:Program} {T:bJ} {ov:Ov}

theorem zkR (hg:ti C) {ops:Array Oper} (l:List Oper) (e e':Env) (h h':Heap) (ks:List Nat) (aj:qX P T C ops l e h=some (ks,e',h')):bt h h':=by
 induction l generalizing e h ks with
 |nil=>simp only [qX,eh,cQ] at aj;obtain ⟨_,_,rfl⟩:=aj;exact .refl _
 |cons o l ih =>
  simp only [qX] at aj
  split at aj
  .split at aj
   .rename_i v h2 hr
    simp only [ct,Prod.exists,cQ] at aj
    obtain ⟨dp,x1,x2,cw,_,rfl,rfl⟩:=aj
    have hk:=Fw hg hr
    refine bt.trans ?_ (ih _ _ _ cw)
    exact ⟨hk.size,yb _ _,λA h3 h4=>hk.get A h3 (dr h4 (Ii _ _))⟩
   .cases aj
  .simp only [ct,Prod.exists,cQ] at aj
   obtain ⟨dp,x1,x2,cw,_,rfl,rfl⟩:=aj
   exact ih _ _ _ cw

theorem FA (hg:ti C):Ze (pP P T C):=by
 intro ops e h e' h' aj
 unfold pP at aj
 split at aj
 .rename_i hr
  split at aj
  .cases aj;exact zkR hg _ _ _ _ _ _ hr
  .cases aj
 .cases aj

theorem Pz {A:Nat} {jump:Option Code} (aj:CN A jump h=some (v,h')):bt h h':=by
 unfold CN at aj
 split at aj
 .rename_i hg;cases aj;exact .set _ (Heap.aq hg)
 .cases aj
theorem zpu (hE:∀ c e h x e' h',E c e h=some (x,e',h')->bt h h') {A:Nat} {args:List ai} (aj:Dc E A args h=some (v,h')):bt h h':=by
 unfold Dc at aj
 split at aj
 .split at aj
  .split at aj
   .rename_i h1 Cr
    split at aj
    .rename_i tM
     have hk:∀ b,bt h (h1.set A b):=λb=>(hE _ _ _ _ _ _ Cr).trans (bt.set b (Heap.aq tM))
     split at aj
     .rename_i iu;exact ((hk _).trans (hE _ _ _ _ _ _ iu)).trans (Pz aj)
     .rename_i iu;exact ((hk _).trans (hE _ _ _ _ _ _ iu)).trans (Pz aj)
     .rename_i iu;exact ((hk _).trans (hE _ _ _ _ _ _ iu)).trans (Pz aj)
     .cases aj
    .cases aj
   .cases aj
  .cases aj
 .cases aj

theorem PN {E:Code->Env->Heap->Option (Ex × Env × Heap)} (hE:∀ c e h x e' h',E c e h=some (x,e',h')->bt h h'):∀ (pre:List Code) (e e':Env) (h h':Heap),ux E pre e h=some (e',h')->bt h h'
 | [],e,e',h,h',aj=>by simp only [ux,eh,cQ] at aj;obtain ⟨_,rfl⟩:=aj;exact .refl _
 |c::cs,e,e',h,h',aj=>by
  simp only [ux] at aj
  split at aj
  .rename_i hr
   exact (hE _ _ _ _ _ _ hr).trans (PN hE cs _ _ _ _ aj)
  .cases aj
theorem Fy (hE:∀ c e h x e' h',E c e h=some (x,e',h')->bt h h') {g:ai} {e3:Env} {h3:Heap} (aj:uF T E fn g e3 h3=some (v,h')):bt h3 h':=by
 unfold uF at aj
 split at aj
 .simp only [cG] at aj
  obtain ⟨fg,_,cg,_,aj⟩:=aj
  split at aj
  .split at aj
   .rename_i hr
    simp only [cG,ct,cQ] at aj
    obtain ⟨_,_,_,_,_,rfl⟩:=aj
    exact hE _ _ _ _ _ _ hr
   .rename_i hr
    simp only [cG,ct,cQ] at aj
    obtain ⟨_,_,_,_,_,rfl⟩:=aj
    exact hE _ _ _ _ _ _ hr
   .cases aj
  .cases aj
 .cases aj
theorem zox (hC:ti C) (hE:∀ c e h x e' h',E c e h=some (x,e',h')->bt h h') {c:Code} {e:Env} (aj:C9 P T E C fn c e h=some (v,h')):bt h h':=by
 unfold C9 at aj
 simp only [cG,Prod.exists] at aj
 obtain ⟨pre,m,t,rest,_,aj⟩:=aj
 split at aj
 .simp only [cG,Prod.exists] at aj
  obtain ⟨e1,h1,hp,v1,h2,ho,aj⟩:=aj
  split at aj
  .rename_i hr
   exact (((PN hE _ _ _ _ _ hp).trans (Fw hC ho)).trans (hE _ _ _ _ _ _ hr)).trans (Fy hE aj)
  .rename_i hr
   exact (((PN hE _ _ _ _ _ hp).trans (Fw hC ho)).trans (hE _ _ _ _ _ _ hr)).trans (Fy hE aj)
  .cases aj
 .cases aj
theorem zln {gs:List Nat} (jP:BJ P gs ov):∀ n,ti (call P T ov n)
 |0=>by intro f args h v h' aj;simp [call] at aj
 |n+1=>by
  intro f args h v h' aj
  have ih:=zln jP n
  cases f with
  |func f =>
   simp only [call] at aj
   split at aj
   .rename_i g hg
    exact (jP f g hg args h v h' aj).1
   .simp only [cG] at aj
    obtain ⟨fn,_,c,_,aj⟩:=aj
    split at aj
    .exact zox ih (λc e h x e' h' hr=>Fz ih (FA ih) _ _ _ _ _ _ _ _ hr) aj
    split at aj
    .rename_i hr
     simp only [ct,cQ] at aj
     obtain ⟨_,_,_,rfl⟩:=aj
     exact Fz ih (FA ih) _ _ _ _ _ _ _ _ hr
    .rename_i hr
     simp only [ct,cQ] at aj
     obtain ⟨_,_,_,rfl⟩:=aj
     exact Fz ih (FA ih) _ _ _ _ _ _ _ _ hr
    .cases aj
  |yield A =>
   simp only [call] at aj
   exact zpu (λc e h x e' h' hr=>Fz ih (FA ih) _ _ _ _ _ _ _ _ hr) aj
  |_=>simp [call] at aj

theorem cn.enter {args:List ai} {aL:Array ai} (hv:cL ρ args aL.toList) (n:Nat):cn ρ (args++List.replicate (n - args.length) undef) (aL++Array.replicate (n - aL.size) undef):=by
 have hl:args.length=aL.size:=by simpa using hv.1
 refine ⟨by simp [hl],λi=>?_⟩
 rw [Env.get_eq]
 rcases mW i args.length with h1|h1
 .rw [jz h1]
  have hx:args[i]? = some args[i]:=iH h1
  obtain ⟨y,hy,cS⟩:=hv.get hx
  have h2:i < aL.size:=by omega
  have e1:(aL++Array.replicate (n - aL.size) undef).getD i undef=y:=by
   have h3:aL[i]? = some y:=by simpa using hy
   simp [Array.getElem?_append_left h2,h3]
  rw [e1,hx]
  exact cS
 .rw [lp h1]
  have e1:(aL++Array.replicate (n - aL.size) undef).getD i undef=undef:=by
   have h3:aL.size<=i:=by omega
   simp only [Array.getD_eq_getD_getElem?,Array.getElem?_append_right h3]
   by_cases h4:i - aL.size < n - aL.size
   .simp [h4]
   .simp [h4]
  rw [e1]
  by_cases h4:i - args.length < n - args.length
  .simp [h4];exact .undef ρ
  .simp [h4];exact .undef ρ

theorem cn.set {ρ:cI} {e:Env} {tmps:Array ai} (he:cn ρ e tmps) {v u:ai} (hv:VR ρ v u) (d:Nat):cn ρ (Env.set e d v) (tmps.setIfInBounds d u):=by
 have:=cn.put (a:={ tmps:=tmps,defers:=[] }) he hv (some d)
 exact this

theorem cn.i3 {ρ:cI}:∀ (ps:List Tmp) (args:List ai) (aL:List ai) (e:Env) (tmps:Array ai),cn ρ e tmps->cL ρ args aL->cn ρ (Am.i3 e ps args) ((ps.zip aL).foldl (λtmps (t,a)=>tmps.setIfInBounds t a) tmps)
 | [],args,aL,e,tmps,he,_=>by cases args <;> exact he
 |t::ps,[],aL,e,tmps,he,hv=>by rw [hv.of_nil];exact he
 |t::ps,v::args,aL,e,tmps,he,hv=>by
  obtain ⟨u,m,rfl,h1,h2⟩:=hv.of_cons
  exact cn.i3 ps args m _ _ (he.set h1 t) h2

theorem zig {ρ:cI} {h:Heap} {fn:Func} {tmps:Array ai} {R:Ending->World->Prop} {n0:Nat}:∀ (rs:List Nat) (w:World),rs.Nodup->(∀ r∈rs,n0<=r/\w.heap[r]? = some (.deferred (some []))/\∀ A L,ρ A=some L->L.b≠r)->bT ρ h w ->
 (∀ w',bT ρ h w'->w'.os=w.os->w'.tape=w.tape->w'.output=w.output->w'.heap.size=w.heap.size->(∀ b,(b < n0\/∃ A L,ρ A=some L/\L.b=b)->w'.heap[b]? = w.heap[b]?)->∃ v,(results fn tmps).run P w'=.ok v w'/\R (.returned v) w') ->
 LeavesInM Fence.wide 0 P fn tmps R (rs.map λr=>{ target:=.collected r,args:=#[] }) .returning w
 | [],w,_,_,hs,hR=>hR w hs rfl rfl rfl rfl (λ_ _=>rfl)
 |r::rs,w,O6,aB,hs,hR=>by
  obtain ⟨a1,a2,a3⟩:=aB r (by simp)
  have aT:r < w.heap.size:=(mU.1 a2).1
  refine ⟨by simp,.inl ⟨r,_,rfl,run_takeDeferred a2,?_⟩⟩
  obtain ⟨KD,An⟩:=List.nodup_cons.1 O6
  have dS:(w.putObj r (.deferred none)).heap.size=w.heap.size:=by rw [PR];simp
  refine zig (n0:=n0) rs _ An (λq hq=>?_) ⟨λA L hA=>(hs.lR A L hA).keep (λ_ _ h=>h) (by rw [dS];exact aR _) (λ_=>PC (a3 A L hA)),hs.inj⟩ λw' fD h1 h2 h3 h4 h5=>?_
  .obtain ⟨b1,b2,b3⟩:=aB q (by simp [hq])
   exact ⟨b1,(PC (λ(e:q=r)=>KD (e ▸ hq))).trans b2,b3⟩
  .refine hR w' fD h1 h2 h3 (h4.trans dS) λb hb=>(h5 b hb).trans (PC λe=>?_)
   subst e
   rcases hb with hb|⟨A,L,hA,hb⟩
   .omega
   .exact a3 A L hA hb

inductive kF (m:Oper) (t:Tmp) (rest:Code):List Code->Code->Prop where
 |here (id:Nat) (ops:Array Oper) (d:Oper) (args:Array Operand) (iq:Array TypeId):ops.toList=[m,d]->d.op=.defer ⟨.value (.tmp t),args,iq⟩->args.isEmpty=true->m.guard=none->d.guard=none->d.dst=none->kF m t rest [] (.seq (.region id ops false) rest)
 |step (a b:Code) (pre:List Code):kF m t rest pre b->kF m t rest (a::pre) (.seq a b)
theorem zoz {d:Oper} {t:Tmp} (h:YS d=some t):∃ args iq,d.op=.defer ⟨.value (.tmp t),args,iq⟩/\args.isEmpty=true/\d.guard=none/\d.dst=none:=by
 unfold YS at h
 split at h
 .rename_i t' args iq aQ
  split at h
  .rename_i hc
   cases h
   simp only [dK,Option.isNone_iff_eq_none] at hc
   exact ⟨args,iq,aQ,hc.1.1,hc.1.2,hc.2⟩
  .cases h
 .cases h
theorem zrv:∀ (c:Code) (pre:List Code) (m:Oper) (t:Tmp) (rest:Code),Bx c=some (pre,m,t,rest)->kF m t rest pre c:=by
 intro c
 induction c with
 |seq a b _ jw =>
  intro pre m t rest h
  have cP:∀ (a:Code),((Bx b).map λ(pre,m,t,r)=>(a::pre,m,t,r))=some (pre,m,t,rest)->kF m t rest pre (.seq a b):=by
   intro a hm
   simp only [ct,Prod.exists,cQ] at hm
   obtain ⟨Wr,m',t',r',hs,rfl,rfl,rfl,rfl⟩:=hm
   exact .step a b Wr (jw _ _ _ _ hs)
  unfold Bx at h
  split at h
  .rename_i id ops b' heq
   cases heq
   split at h
   .rename_i m' d Aq
    split at h
    .rename_i t' hd
     split at h
     .rename_i hg
      simp only [eh,cQ] at h
      obtain ⟨rfl,rfl,rfl,rfl⟩:=h
      obtain ⟨args,iq,h1,h2,h3,h4⟩:=zoz hd
      exact .here id ops d args iq Aq h1 h2 (by simpa using hg) h3 h4
     .exact cP _ h
    .exact cP _ h
   .exact cP _ h
  .rename_i a' b' _ heq
   cases heq
   exact cP _ h
  .cases h
 |_=>intro pre m t rest h;simp [Bx] at h

theorem zoy (hT:T.Fits P) {gs:List Nat} (hC:CS P gs C) (hg:ti C) 
 (hE:∀ (n0:Nat) (B:List Deferred) (c:Code) (e:Env) (h:Heap) (x:Ex) (e':Env) (h':Heap) (ρ:cI) (a:Act) (w:World) (Q:Exit->Act->World->Prop),E c e h=some (x,e',h')->cH ρ c->(true=true->mR c=true)->cY gs ρ->bT ρ h w->fA ρ h h'->cn ρ e a.tmps->Marks n0 B true ρ w a.defers->Gy ρ none none->n0<=w.heap.size ->
  (∀ ρ' a' w',Fr ρ ρ' h h' w w'->bT ρ' h' w'->cn ρ' e' a'.tmps->Marks n0 B true ρ' w' a'.defers->Q x.to a' w')->c.wpIn (WR none) 0 P Q a w)
 (yk:∀ c e h x e' h',E c e h=some (x,e',h')->bt h h')
 {c:Code} {e:Env} {w:World} {tmps:Array ai} (tO:∀ g fg cg,T.fn g=some fg->fg.body=some cg->rb gs cg=true) (cV:cH ρ c) (hG:cY gs ρ) (hs:bT ρ h w) (hf:fA ρ h h') (he:cn ρ e tmps)
 (aj:C9 P T E C fn c e h=some (v,h')) :
 c.wpIn Fence.wide 0 P (bodyPostM Fence.wide 0 P fn λed w'=>∃ ρ' u,ed=.returned u/\Fr ρ ρ' h h' w w'/\bT ρ' h' w'/\VR ρ' v u) { tmps,defers:=[] } w:=by
 have key:∀ (pre:List Code) (m:Oper) (t:Tmp) (rest:Code) (c:Code),kF m t rest pre c->∀ (e:Env) (h1:Heap) (ρ1:cI) (w1:World) (a:Act),pre.all mR=true->mR rest=true->cH ρ1 c->cY gs ρ1->bT ρ1 h1 w1->fA ρ1 h1 h'->cn ρ1 e a.tmps->a.defers=[]->Fr ρ ρ1 h h1 w w1 ->
  ((ux E pre e h1).bind λ(e1,h1)=>(gD P T C e1 m h1).bind λ(v,h2) =>
    match E rest (put e1 m.dst v) h2 with
    |some (.ret,e3,h3)=>uF T E fn ((put e1 m.dst v).get t) e3 h3
    |some (.normal,e3,h3)=>uF T E fn ((put e1 m.dst v).get t) e3 h3
    |_=>none)=some (v,h') ->
  c.wpIn Fence.wide 0 P (bodyPostM Fence.wide 0 P fn λed w'=>∃ ρ' u,ed=.returned u/\Fr ρ ρ' h h' w w'/\bT ρ' h' w'/\VR ρ' v u) a w1:=by
  intro pre m t rest c dD
  induction dD with
  |step a0 b0 ami _ ih =>
   intro e h1 ρ1 w1 a mG fL cV hG hs hf he hd dL aj
   simp only [gS,dK] at mG
   simp only [ux,cG,Prod.exists] at aj
   obtain ⟨e2,h2,hp,aj⟩:=aj
   split at hp
   .rename_i e3 h3 hr
    have pI:bt h3 h':=by
     obtain ⟨v2,h4,ho,aj⟩:=aj
     have k1:=PN yk _ _ _ _ _ hp
     have k2:=Fw hg ho
     split at aj
     .rename_i iu;exact ((k1.trans k2).trans (yk _ _ _ _ _ _ iu)).trans (Fy yk aj)
     .rename_i iu;exact ((k1.trans k2).trans (yk _ _ _ _ _ _ iu)).trans (Fy yk aj)
     .cases aj
    refine wpIn_seq ?_
    refine hE w1.heap.size [] a0 e h1 .normal e3 h3 ρ1 a w1 _ hr cV.1 (λ_=>mG.1) hG hs (hf.left pI.size) he (by rw [hd];exact Marks.nil) trivial (aR _) λρ2 a2 w2 f2 s2 r2 d2=>?_
    obtain ⟨rs,m1,_,m2,_⟩:=d2
    rw [m2 rfl] at m1
    refine ih e3 h3 ρ2 w2 a2 mG.2 fL (cV.2.mono f2.grow) (hG.mono f2.grow) s2 (hf.right f2) r2 (by simpa using m1) (dL.trans f2) ?_
    simp only [cG,Prod.exists]
    exact ⟨e2,h2,hp,aj⟩
   .cases hp
  |here id ops d args iq Aq aQ eb hmg OS Ut =>
   intro e h1 ρ1 w1 a _ fL cV hG hs hf he hd dL aj
   simp only [ux,cG,Prod.exists,eh,cQ] at aj
   obtain ⟨e1,bU,⟨rfl,rfl⟩,v1,h2,ho,aj⟩:=aj
   have o9:bt h2 h':=by
    split at aj
    .rename_i iu;exact (yk _ _ _ _ _ _ iu).trans (Fy yk aj)
    .rename_i iu;exact (yk _ _ _ _ _ _ iu).trans (Fy yk aj)
    .cases aj
   refine wpIn_seq (wpIn_region_list ?_)
   rw [Aq]
   have Ve:kG ρ1 m:=cV.1 m (by rw [Aq];simp)
   have hwm:Region.wanted m (yielded ops a.tmps)=true:=by simp [Region.wanted,hmg]
   rw [wpListIn,aD hwm]
   have tZ:=Fx hT hC hG hs he Ve (hf.left o9.size) ho
   refine tZ.wp (rl:=none) (FB ho) λρ2 u w2 f2 s2 v2=>?_
   have zT:cn ρ2 (put e m.dst v1) (a.put m.dst u).tmps:=(he.mono f2.grow).put v2 m.dst
   have ld:(a.put m.dst u).defers=[]:=by cases m.dst <;> exact hd
   have hwd:Region.wanted d (yielded ops (a.put m.dst u).tmps)=true:=by simp [Region.wanted,OS]
   rw [wpListIn,aD hwd]
   have zX:=zT.2 t
   have Eo:∃ x e3 h3,(x=Ex.ret\/x=.normal)/\E rest (put e m.dst v1) h2=some (x,e3,h3)/\uF T E fn ((put e m.dst v1).get t) e3 h3=some (v,h'):=by
    split at aj
    .rename_i e3 h3 iu;exact ⟨_,e3,h3,.inl rfl,iu,aj⟩
    .rename_i e3 h3 iu;exact ⟨_,e3,h3,.inr rfl,iu,aj⟩
    .cases aj
   obtain ⟨x,e3,h3,hx,iu,dQ⟩:=Eo
   unfold uF at dQ
   split at dQ
   .rename_i g fi ca tP
    rw [tP] at zX
    generalize Uc:(a.put m.dst u).tmps.getD t undef=ag at zX
    cases zX with
    |func _ q1 q2 q3 q4 =>
     rename_i BX BR
     have yA:cL ρ2 fi.toList BX.toList:=⟨by simpa using q1,λi x y hx hy=>q3 i x y (by simpa using hx) (by simpa using hy)⟩
     have lX:cL ρ2 ca.toList BR.toList:=⟨by simpa using q2,λi x y hx hy=>q4 i x y (by simpa using hx) (by simpa using hy)⟩
     simp only [cG] at dQ
     obtain ⟨fg,Ki,cg,OQ,dQ⟩:=dQ
     split at dQ
     .rename_i mE
      have hae:(a.put m.dst u).eval (.tmp t)=.func (.func g) BX BR:=Uc
      have kj:(execOp (a.put m.dst u).eval d).run P w2=.ok (.defer { target:=.fn (.func g) BR,args:=BX }) w2:=by
       have DY:args=#[]:=by simpa using eb
       simp [execOp,aQ,resolve,hae,Deferred.ofValue,DY]
      refine ⟨λfq hq=>trivial,?_⟩
      rw [show Oper.semAt Fence.wide.round (a.put m.dst u).eval d=execOp (a.put m.dst u).eval d from rfl,kj]
      simp only [Oper.uponIn,wpListIn,Ut,ld]
      have pI:bt h3 h':=Fy yk (show uF T E fn (.func (.func g) fi ca) e3 h3=some (v,h') by unfold uF;simp only [Ki,dO,OQ,mE,if_true];exact dQ)
      refine hE w2.heap.size [{ target:=.fn (.func g) BR,args:=BX }] rest _ _ _ _ _ ρ2 _ w2 _ iu (cV.2.mono f2.grow) (λ_=>fL) (hG.mono f2.grow) s2 ((hf.right f2).left pI.size) zT Marks.nil trivial (aR _) λρ3 a3 w3 f3 s3 r3 d3=>?_
      obtain ⟨rs,m1,_,m2,_⟩:=d3
      rw [m2 rfl] at m1
      have m1':a3.defers=[{ target:=.fn (.func g) BR,args:=BX }]:=by simpa using m1
      have hl:LeavesInM Fence.wide 0 P fn a3.tmps (λed w'=>∃ ρ' u,ed=.returned u/\Fr ρ ρ' h h' w w'/\bT ρ' h' w'/\VR ρ' v u) a3.defers .returning w3:=by
       rw [m1']
       obtain ⟨hPg,iU,_⟩:=hT.fn g fg Ki
       have fK:¬ fg.name="runtime.NumGoroutine":=by simpa using iU
       refine ⟨by simp,.inr ⟨(λhh=>by cases hh),_,_,g,BX++BR,rfl,?_,λ_ _=>trivial,?_⟩⟩
       .show (callFunc g (BX++BR)).run P w3=_
        simp [callFunc,hPg,fK,OQ]
       .have iw:cL ρ3 (fi.toList++ca.toList) (BX++BR).toList:=by
         have:=(yA.append lX).mono f3.grow
         simpa using this
        have heg:=cn.enter iw fg.ntmps
        have KP:∃ y e4 h4 vg,(y=Ex.ret\/y=.normal)/\E cg ((fi.toList++ca.toList)++List.replicate (fg.ntmps - (fi.toList++ca.toList).length) undef) h3=some (y,e4,h4)/\nI T fg e4 h4=some vg/\nI T fn e3 h4=some v/\h4=h':=by
         split at dQ
         .rename_i e4 h4 KN
          simp only [cG,ct,cQ] at dQ
          obtain ⟨vg,K4,v',uh,rfl,rfl⟩:=dQ
          exact ⟨_,e4,h4,vg,.inl rfl,KN,K4,uh,rfl⟩
         .rename_i e4 h4 KN
          simp only [cG,ct,cQ] at dQ
          obtain ⟨vg,K4,v',uh,rfl,rfl⟩:=dQ
          exact ⟨_,e4,h4,vg,.inr rfl,KN,K4,uh,rfl⟩
         .cases dQ
        obtain ⟨y,e4,h4,vg,hy,KN,K4,hvf,rfl⟩:=KP
        refine (callsDIn_of_wp (R:=λed w'=>∃ u,ed=.returned u/\∃ vr,(results fn a3.tmps).run P w'=.ok vr w'/\∃ ρ' u',Ending.returned vr=.returned u'/\Fr ρ ρ' h h4 w w'/\bT ρ' h4 w'/\VR ρ' v u') hPg OQ trivial ?_).mono ?_
        .refine hE w3.heap.size [] cg _ _ _ _ _ ρ3 _ w3 _ KN (.of (hG.mono (f2.trans f3).grow) (tO g fg cg Ki OQ)) (λ_=>mE) (hG.mono (f2.trans f3).grow) s3 ((hf.right f2).right f3) heg Marks.nil trivial (aR _) λρ4 a4 w4 f4 s4 r4 d4=>?_
         obtain ⟨rs4,n1,_,n2,_⟩:=d4
         rw [n2 rfl] at n1
         have n1':a4.defers=[]:=by simpa using n1
         obtain ⟨ug,hug,_⟩:=Xj hT s4 r4 K4
         obtain ⟨uf,huf,VL⟩:=Xj hT s4 (r3.mono f4.grow) hvf
         have hbp:a4.defers=[]/\∃ vv,(results fg a4.tmps).run P w4=.ok vv w4/\∃ u,Ending.returned vv=.returned u/\∃ vr,(results fn a3.tmps).run P w4=.ok vr w4/\∃ ρ' u',Ending.returned vr=.returned u'/\Fr ρ ρ' h h4 w w4/\bT ρ' h4 w4/\VR ρ' v u' :=
          ⟨n1',ug,hug,ug,rfl,uf,huf,ρ4,uf,rfl,((dL.trans f2).trans f3).trans f4,s4,VL⟩
         rcases hy with rfl|rfl
         .exact hbp
         .exact hbp
        .rintro ed u' w' ⟨rfl,uu,rfl,vr,yB,hR⟩
         exact ⟨vr,yB,hR⟩
      rcases hx with rfl|rfl
      .exact hl
      .exact hl
     .cases dQ
   .cases dQ
 unfold C9 at aj
 simp only [cG,Prod.exists] at aj
 obtain ⟨pre,m,t,rest,dD,aj⟩:=aj
 split at aj
 .rename_i mE
  simp only [dK] at mE
  exact key pre m t rest c (zrv _ _ _ _ _ dD) e h ρ w _ mE.1 mE.2 cV hG hs hf he rfl (Fr.refl _ _ _) aj
 .cases aj

theorem XN (kV:P.follows .mixedOrders=true) (hT:T.Fits P) (jP:BJ P T.gs ov):∀ n,CS P T.gs (call P T ov n)
 |0=>by
  refine ⟨?_,?_⟩
  .intro f args h v h' aj;simp [call] at aj
  .intro f args h v h' aj;simp [call] at aj
 |n+1=>by
  have Lc:=XN kV hT jP n
  have nf:=zln (T:=T) jP n
  have wj:=λ(rd rl:Option Nat) (n0:Nat)=>zge hT Lc nf (zgf kV hT Lc nf) (FA nf) rd rl n0 [] false n
  have wH:=λ(rd:Option Nat)=>Fz (P:=P) (T:=T) nf (FA (P:=P) (T:=T) nf) rd n
  refine ⟨?_,?_⟩
  .intro f args h v h' aj ρ w aL hG hs hf hv
   simp only [call] at aj
   split at aj
   .rename_i g hg
    exact (jP f g hg args h v h' aj).2 ρ w aL hG hs hf hv
   .simp only [cG] at aj
    obtain ⟨fn,lf,c,hc,aj⟩:=aj
    obtain ⟨hP,iU,cV⟩:=hT.fn f fn lf
    right
    refine ⟨?_,?_⟩
    .have fK:¬ fn.name="runtime.NumGoroutine":=by simpa using iU
     simp [callFunc,hP,fK,hc]
    .refine callsIn_wide.1 (callsIn_of_wp_marks (n:=0) hP hc trivial ?_)
     have he:=cn.enter hv fn.ntmps
     have go:∀ (x:Ex) (e:Env) (h2:Heap),x=.ret\/x=.normal->dV P T (call P T ov n) (pP P T (call P T ov n)) none n c (args++List.replicate (fn.ntmps - args.length) undef) h=some (x,e,h2) ->
      (nI T fn e h2).map (λv=>(v,h2))=some (v,h')->c.wpIn Fence.wide 0 P (bodyPostM Fence.wide 0 P fn λed w'=>∃ ρ' u,ed=.returned u/\Fr ρ ρ' h h' w w'/\bT ρ' h' w'/\VR ρ' v u) { tmps:=aL++Array.replicate (fn.ntmps - aL.size) undef,defers:=[] } w:=by
      intro x e h2 hx hr kj
      simp only [ct,cQ] at kj
      obtain ⟨v',kj,rfl,rfl⟩:=kj
      refine wj none none w.heap.size c _ _ _ _ _ ρ _ w _ hr (.of hG (cV c hc)) (λq=>by cases q) hG hs hf he Marks.nil trivial (aR _) λρ' a' w' f1 s1 e1 d1=>?_
      obtain ⟨rs,m1,m2,_,m3⟩:=d1
      rw [bC] at m1
      have hl:LeavesInM Fence.wide 0 P fn a'.tmps (λed w'=>∃ ρ' u,ed=.returned u/\Fr ρ ρ' h h2 w w'/\bT ρ' h2 w'/\VR ρ' v' u) a'.defers .returning w':=by
       rw [m1]
       refine zig rs w' m2 m3 s1 λw2 s2 q1 q2 q3 q4 q5=>?_
       obtain ⟨u,hu,pJ⟩:=Xj hT s2 e1 kj
       refine ⟨u,hu,ρ',u,rfl,⟨f1.grow,f1.fresh,q1.trans f1.os,q2.trans f1.tape,q3.trans f1.output,by rw [q4];exact f1.size,f1.iv,f1.low,λb hb aB=>?_,f1.sy⟩,s2,pJ⟩
       exact (q5 b (.inl hb)).trans (f1.keep b hb aB)
      rcases hx with rfl|rfl
      .exact hl
      .exact hl
     split at aj
     .exact zoy hT Lc nf (λn0 B c e h x e' h' ρ a w Q=>zge hT Lc nf (zgf kV hT Lc nf) (FA nf) none none n0 B true n c e h x e' h' ρ a w Q) (λc e h x e' h' hr=>wH none c e h x e' h' hr) (λg fg cg h1 h2=>(hT.fn g fg h1).2.2 cg h2) (.of hG (cV c hc)) hG hs hf he aj
     split at aj
     .rename_i e h2 hr;exact go .ret e h2 (.inl rfl) hr aj
     .rename_i e h2 hr;exact go .normal e h2 (.inr rfl) hr aj
     .cases aj
  .intro A args h v h' aj ρ w aL L hA hG hs hf hv
   simp only [call] at aj
   unfold Dc at aj
   split at aj
   .rename_i env ps assign body st fM hg
    split at aj
    .rename_i hlen
     split at aj
     .rename_i e1 h1 Cr
      split at aj
      .rename_i rF Fm oL vI kq tM
       obtain ⟨lo,l1,l2,l3,l4,l5,l6,l7,l8,l9,_⟩:=MV hs hA hg
       have jt:args.length=aL.size:=by simpa using hv.1
       have wS:lo.params.size=ps.length:=by rw [<- l4];simp
       refine ⟨lo.fn,(lo.params.zip aL).foldl (λtmps (t,a)=>tmps.setIfInBounds t a) lo.tmps,lo.assign,lo.body,?_,?_⟩
       .simp only [Instr.yield,Sem.run_bind,run_getLoop l1,Result.andThen_ok]
        rw [az (by omega)]
        simp
       .have key:∀ (x:Ex) (e2:Env) (h2:Heap) (jump:Option Code),dV P T (call P T ov n) (pP P T (call P T ov n)) (some A) n body e1 (h1.set A (.loop rF Fm oL vI .busy kq))=some (x,e2,h2) ->
         (jump=match x with | .normal=>none | .ret=>some .ret | .exit id=>some (.exit id))->CN A jump h2=some (v,h')->RoundIn Fence.wide 0 P L.b lo.fn ((lo.params.zip aL).foldl (λtmps (t,a)=>tmps.setIfInBounds t a) lo.tmps) lo.assign lo.body w λed w'=>∃ ρ' u,ed=.returned u/\Fr ρ ρ' h h' w w'/\bT ρ' h' w'/\VR ρ' v u:=by
         intro x e2 h2 jump iu wG my
         have k1:=wH (some A) _ _ _ _ _ _ Cr
         have k2:=wH (some A) _ _ _ _ _ _ iu
         have k3:=Pz my
         have s1:=k2.size
         have s2:=k3.size
         rw [Heap.size_set] at s1
         refine roundIn_of_wpIn (F:=Fence.wide) trivial ?_
         have wq:cn ρ (i3 env ps args) ((lo.params.zip aL).foldl (λtmps (t,a)=>tmps.setIfInBounds t a) lo.tmps):=by
          have:=cn.i3 ps args aL.toList env lo.tmps l7 hv
          rw [<- Array.foldl_toList,Array.toList_zip,l4]
          exact this
         rw [l5]
         refine wj (some A) (some L.b) w.heap.size assign _ _ _ _ _ ρ _ w _ Cr l8 (λq=>by cases q) hG hs (hf.left (by omega)) wq Marks.nil ⟨L,hA,rfl⟩ (aR _) λρ1 a1 w1 f1 sm1 en1 d1=>?_
         have nR:=f1.grow A L hA
         obtain ⟨lo1,p1,p2,p3,p4,p5,p6,p7,p8,p9,p10⟩:=MV sm1 nR tM
         obtain ⟨f2,sm2⟩:=p10 .busy kq
         have UX:({ lo1 with state:=LoopState.busy,pending:=kq }:Loop)={ lo1 with state:=LoopState.busy }:=by subst p3;rfl
         rw [UX] at f2 sm2
         refine ⟨_,run_beginRound p1 p2,?_⟩
         rw [l6]
         refine wj (some A) (some L.b) w.heap.size body _ _ _ _ _ ρ1 a1 _ _ iu (l9.mono f1.grow) (λq=>by cases q) (hG.mono f1.grow) sm2 ?_ en1 (d1.step f2) ⟨L,nR,rfl⟩ (eA f1.size f2.size) λρ3 a3 w3 f3 sm3 en3 d3=>?_
         .have dL:fA ρ1 h1 h2:=((hf.left (by omega)).right f1)
          exact dL
         .have jM:=f3.grow A L nR
          unfold CN at my
          split at my
          .rename_i JD ps3 sC BL Ha acm UF
           cases my
           obtain ⟨Fi,z1,z2,z3,z4,z5,z6,z7,z8,z9,xG⟩:=MV sm3 jM UF
           obtain ⟨f4,sm4⟩:=xG (if jump.isNone then .ready else .done) jump
           have lD:∃ ρ' u,Ending.returned (.bool jump.isNone)=.returned u/\Fr ρ ρ' h (h2.set A (.loop JD ps3 sC BL (if jump.isNone then .ready else .done) jump)) w (w3.putObj L.b (.loop { Fi with state:=if jump.isNone then .ready else .done,pending:=jump })) /\
            bT ρ' (h2.set A (.loop JD ps3 sC BL (if jump.isNone then .ready else .done) jump)) (w3.putObj L.b (.loop { Fi with state:=if jump.isNone then .ready else .done,pending:=jump }))/\VR ρ' (.bool jump.isNone) u :=
            ⟨ρ3,_,rfl,((f1.trans f2).trans f3).trans f4,sm4,.bool _⟩
           have eg:=run_endRound (P:=P) jump z1
           cases x with
           |normal=>subst wG;exact ⟨_,_,eg,lD⟩
           |ret=>subst wG;exact ⟨_,_,eg,lD⟩
           |exit id=>subst wG;exact ⟨_,_,eg,lD⟩
          .cases my
        split at aj
        .rename_i e2 h2 iu;exact key _ _ _ _ iu rfl aj
        .rename_i e2 h2 iu;exact key _ _ _ _ iu rfl aj
        .rename_i e2 h2 iu;exact key _ _ _ _ iu rfl aj
        .cases aj
      .cases aj
     .cases aj
    .cases aj
   .cases aj

theorem Fr.below {ρ':cI} {w w':World} (f:Fr ρ ρ' h h' w w') (ki:∀ A L,ρ A=some L->A < h'.low):Below w.heap.size w w' :=
 ⟨f.os,f.tape,f.output,f.size,λk hk=>f.keep k hk λA L hA _=>.inl (ki A L hA)⟩

theorem zyA (kV:P.follows .mixedOrders=true) (hT:T.Fits P) (jP:BJ P T.gs ov) {n:Nat} {f:FuncId} {b:Bool} (hf:ov f=none) (eg:call P T ov n (.func f) [] h=some (.bool b,h')) (w:World) (ρ:cI)
 (hG:cY T.gs ρ) (hs:bT ρ h w) (cj:∀ A,h.size<=A->ρ A=none) (ki:∀ A L,ρ A=some L->A < h'.low) :
 Calls P f #[] w λe w'=>e=.returned (.bool b)/\Below w.heap.size w w':=by
 have rH:=(XN kV hT jP n).fn f [] h (.bool b) h' eg ρ w #[] hG hs (λA h1 _=>cj A h1) (.nil _)
 rcases rH with ⟨ρ',u,w',h1,_⟩|⟨_,h1⟩
 .exfalso
  cases n with
  |zero=>simp [call] at eg
  |succ n =>
   simp only [call,hf,cG] at eg
   obtain ⟨fn,lf,c,hc,_⟩:=eg
   obtain ⟨hP,iU,_⟩:=hT.fn f fn lf
   have fK:¬ fn.name="runtime.NumGoroutine":=by simpa using iU
   simp [callFunc,hP,fK,hc] at h1
 .refine h1.mono ?_
  rintro e w' ⟨ρ',u,rfl,f1,s1,hv⟩
  refine ⟨?_,f1.below ki⟩
  rw [hv.bK rfl]
end
end Go.Am
