/- A region that draws its order: the plain machine goes by the text; what it comes to does not hang on the order. No condition. -/
import Derived.Test.YtkgojconmeeegaaGreatDoorG0
import Derived.Orders
import Derived.OrdersIn
set_option linter.unusedSimpArgs false
namespace Go.Am
open Go.RowKit

def zmW (T:bL):List TypeId->Bool
 |t::_=>(match T.desc t with|some (.map _ _)=>false|_=>true)
 | []=>true
def rR (T:bL) (o:Oper):Bool :=
 match o.op with
 | .move _ | .assign _ | .pick _ _ _ | .build _ _ | .nilCheck _ | .binOp _ _ _ _ _ | .makeFunc _ _ _ | .slice _ _ _ _ _ | .fieldAddr _ _ _ | .field _ _ _ | .indexAddr _ _ _ | .extract _ _ | .unOp _ _ _ | .index _ _ _ | .makeInterface _ _ | .typeAssert _ _ _ _=>true
 | .convert s d _ => !uP T s && !uP T d
 | .call c=>match c.callee with
  | .builtin .len=>zmW T c.argTypes.toList
  | .builtin .min | .builtin .max | .builtin .cap=>true
  |_=>false
 |_=>false

section
variable (P:Program) (T:bL) (C:Fn->List ae->Heap->Option (ae × Heap))

def kJ (o:Oper) (e:Env) (h h':Heap):Nat :=
 if rR T o then 0 else if h.size<=h'.low then (match o.op with
  | .load _ a=>(match bz e a with
   | .pointer (some x)=>3+3*x.block
   |_=>1)
  | .buildSlice _ _ _=>4+3*h.size
  |_=>1)
 else (match o.op with
  | .store _ a _=>(match bz e a with
   | .pointer (some x)=>5+3*x.block
   |_=>2)
  |_=>2)
def sH (ops:Array Oper):List Oper->Env->Heap->Option (List Nat × Env × Heap)
 | [],e,h=>some ([],e,h)
 |o::r,e,h =>
  if nP ops o e then
   match jc P T C e o { h with low:=h.size } with
   |some (v,h')=>(sH ops r (put e o.dst v) { h' with low:=min h.low h'.low }).map λ(ks,x)=>(kJ T o e h h'::ks,x)
   |none=>none
  else (sH ops r (put e o.dst undef) h).map λ(ks,x)=>(0::ks,x)

def UH (acc:List Nat) (o:Oper):Nat:=o.after.toList.foldl (λs e=>if Region.binds .any e then s ||| 2 ^ e.on ||| acc.getD e.on 0 else s) 0
def nS:List Oper->List Nat->List Nat
 | [],acc=>acc
 |o::r,acc=>nS r (acc++[UH acc o])
def oM (a b:Nat):Bool:=a == 0 || b == 0 || (a % 3 != 2 && b % 3 != 2) || (Nat.ble 5 b && b % 3 == 2 && Nat.ble 3 a && ((a % 3 == 0 && a+2 != b) || (a % 3 == 1 && Nat.ble (b+2) a)))
def JC (ops:Array Oper) (ks ms:List Nat) (j:Nat):Bool :=
 match ops[j]? with
 |some oj=>oj.after.toList.all (λe => !Region.binds .any e || decide (e.on < j)) &&
  (List.range j).all λi=>(ms.getD j 0).testBit i || (match ops[i]? with
   |some oi=>oi.apart ops oj && oM (ks.getD i 2) (ks.getD j 2)
   |none=>true)
 |none=>true
def HV (ops:Array Oper) (ks ms:List Nat):Bool:=(List.range ops.size).all (JC ops ks ms)

def rO (ops:Array Oper) (e:Env) (h:Heap):Option (Env × Heap) :=
 match sH P T C ops ops.toList e h with
 |some (ks,e',h')=>if HV ops ks (nS ops.toList []) then some (e',h') else none
 |none=>none
end

section
variable {P:Program} {T:bL} {C:Fn->List ae->Heap->Option (ae × Heap)}

theorem zuJ {t:TypeId} {x:ae} {ts:List TypeId} (hb:zmW T (t::ts)=true) (h h2:Heap):bt T t x h=bt T t x h2:=by
 simp only [zmW] at hb
 unfold bt
 split at hb
 .cases hb
 .rename_i ba
  split
  all_goals first|rfl|(rename_i hd;exact (ba _ _ hd).elim)

theorem zfy {e:Env} {o:Oper} {h h':Heap} {v:ae} (hb:rR T o=true) (an:jc P T C e o h=some (v,h')):h'=h/\∀ h2,jc P T C e o h2=some (v,h2):=by
 have cS:∀ {r:Option ae},(r.map λx=>(x,h))=some (v,h')->h'=h/\∀ h2:Heap,(r.map λx=>(x,h2))=some (v,h2):=by
  intro r hr
  simp only [cC,df] at hr
  obtain ⟨_,rfl,rfl,rfl⟩:=hr
  exact ⟨rfl,λ_=>rfl⟩
 have eg:ic P e o h=some (v,h')->h'=h/\∀ h2,ic P e o h2=some (v,h2):=by
  intro hp
  unfold ic at hp ⊢
  split at hp
  .rename_i h1
   split at hp
   .rename_i h2
    split at hp
    .rename_i h3
     cases hp
     exact ⟨rfl,λ_=>by simp [h1,h3]⟩
    .cases hp
   .cases hp
  .cases hp
 obtain ⟨dst,op,ty,pos,after,guard⟩:=o
 cases op <;> simp only [rR,gW] at hb <;> simp only [jc] at an ⊢
 case move x=>cases an;exact ⟨rfl,λ_=>rfl⟩
 case assign x=>cases an;exact ⟨rfl,λ_=>rfl⟩
 case pick c a b =>
  split at an
  .cases an;exact ⟨rfl,λ_=>rfl⟩
  .cases an
 case build=>exact cS an
 case nilCheck x =>
  split at an
  .cases an;exact ⟨rfl,λ_=>rfl⟩
  .cases an;exact ⟨rfl,λ_=>rfl⟩
  .cases an;exact ⟨rfl,λ_=>rfl⟩
  .cases an
 case makeInterface=>exact cS an
 case typeAssert=>exact cS an
 case binOp=>exact cS an
 case makeFunc fn f c =>
  split at an
  .cases an;exact ⟨rfl,λ_=>rfl⟩
  .cases an
 case slice=>exact cS an
 case fieldAddr=>exact cS an
 case field=>exact cS an
 case indexAddr=>exact cS an
 case extract t i =>
  split at an
  .exact cS an
  .cases an
 case unOp=>exact eg an
 case convert s d x =>
  simp only [dP,C9] at hb
  rw [hb.1,hb.2] at an ⊢
  exact eg an
 case index=>exact eg an
 case call c =>
  obtain ⟨callee,args,iy⟩:=c
  cases callee with
  |value f=>simp at hb
  |invoke r m=>simp at hb
  |builtin b =>
   cases b <;> simp at hb <;> simp only at an ⊢
   case len =>
    split at an
    .rename_i vI lr
     rw [vI] at hb
     obtain ⟨e1,e2⟩:=cS an
     exact ⟨e1,λh2=>by rw [zuJ hb h2 h];exact e2 h2⟩
    .cases an
   case min=>exact eg an
   case max=>exact eg an
   case cap =>
    split at an
    .exact cS an
    .cases an

theorem zoV {e e':Env} {o:Oper} (h:Heap) (he:∀ x∈o.op.operands.toList,bz e x=bz e' x):jc P T C e o h=jc P T C e' o h:=by
 have eg:(∀ cs b,o.op≠.select cs b)->ic P e o h=ic P e' o h:=by
  intro Zi
  unfold ic
  have h1:execOp (bz e) o=execOp (bz e') o:=execOp_congr o Zi (λx hx=>he x (by simpa using hx))
  have h2:(o.op.operands.toList.all λx=>plain (bz e x))=(o.op.operands.toList.all λx=>plain (bz e' x)):=by
   rw [Bool.eq_iff_iff,gK,gK]
   exact ⟨λhh x hx=>by rw [<- he x hx];exact hh x hx,λhh x hx=>by rw [he x hx];exact hh x hx⟩
  rw [h1,h2]
 have pf:∀ (xs:List Operand),(∀ x∈xs,x∈o.op.operands.toList)->xs.map (bz e)=xs.map (bz e'):=λxs hx=>RZ λx lr=>he x (hx x lr)
 unfold jc
 dsimp only
 split
 .rename_i x aZ;rw [he x (by simp [aZ,Op.operands])]
 .rename_i x aZ;rw [he x (by simp [aZ,Op.operands])]
 .rename_i c a b aZ;rw [he c (by simp [aZ,Op.operands]),he a (by simp [aZ,Op.operands]),he b (by simp [aZ,Op.operands])]
 .rfl
 .rename_i t x aZ;rw [he x (by simp [aZ,Op.operands])]
 .rename_i t ps aZ
  rw [RZ (g:=λ(p:Nat × Operand)=>(p.1,bz e' p.2)) λp hp=>by rw [he p.2 (by simp [aZ,Op.operands];exact ⟨p.1,by simpa using hp⟩)]]
 .rename_i t n ps aZ
  rw [RZ (g:=λ(p:Nat × Operand)=>(p.1,bz e' p.2)) λp hp=>by rw [he p.2 (by simp [aZ,Op.operands];exact ⟨p.1,by simpa using hp⟩)]]
 .rename_i t x aZ;rw [he x (by simp [aZ,Op.operands])]
 .rename_i t a x aZ;rw [he a (by simp [aZ,Op.operands]),he x (by simp [aZ,Op.operands])]
 .rename_i x aZ;rw [he x (by simp [aZ,Op.operands])]
 .rename_i op t x y yt aZ;rw [he x (by simp [aZ,Op.operands]),he y (by simp [aZ,Op.operands])]
 .rename_i fn f c aZ
  have h1:=pf f.toList (λx hx=>by simp [aZ,Op.operands];left;simpa using hx)
  have h2:=pf c.toList (λx hx=>by simp [aZ,Op.operands];right;simpa using hx)
  have h3:f.map (bz e)=f.map (bz e'):=by apply Array.ext';simpa using h1
  have h4:c.map (bz e)=c.map (bz e'):=by apply Array.ext';simpa using h2
  rw [h3,h4]
 .rename_i t l c aZ;rw [he l (by simp [aZ,Op.operands]),he c (by simp [aZ,Op.operands])]
 .rename_i t x l hi m aZ
  have GG:∀ (y:Option Operand),(∀ z,y=some z->z∈o.op.operands.toList)->y.map (bz e)=y.map (bz e'):=by
   intro y hy
   cases y with
   |none=>rfl
   |some z=>simp [he z (hy z rfl)]
  rw [he x (by simp [aZ,Op.operands]),GG l (λz hz=>by subst hz;simp [aZ,Op.operands]),GG hi (λz hz=>by subst hz;simp [aZ,Op.operands]),GG m (λz hz=>by subst hz;simp [aZ,Op.operands])]
 .rename_i s x f aZ;rw [he x (by simp [aZ,Op.operands])]
 .rename_i t x f aZ;rw [he x (by simp [aZ,Op.operands])]
 .rename_i t x i aZ;rw [he x (by simp [aZ,Op.operands]),he i (by simp [aZ,Op.operands])]
 .rename_i t i aZ;rw [he t (by simp [aZ,Op.operands])]
 .rename_i aZ;exact eg (by simp [aZ])
 .rename_i s d x aZ;rw [he x (by simp [aZ,Op.operands]),eg (by simp [aZ])]
 .rename_i aZ;exact eg (by simp [aZ])
 .rename_i c aZ
  obtain ⟨callee,args,iy⟩:=c
  dsimp only
  have ha:=pf args.toList (λx hx=>by simp [aZ,Op.operands,Call.operands];right;simpa using hx)
  have b9:∀ x∈args.toList,bz e x=bz e' x:=λx hx=>he x (by simp [aZ,Op.operands,Call.operands];right;simpa using hx)
  split
  .split
   .rename_i h1 h2;rw [b9 _ (by rw [h2];simp),b9 _ (by rw [h2];simp)]
   .rfl
  .split
   .rename_i h1 h2;rw [b9 _ (by rw [h2];simp),b9 _ (by rw [h2];simp)]
   .rfl
  .split
   .rename_i h1 h2;rw [b9 _ (by rw [h2];simp)]
   .rfl
  .split
   .rename_i h1 h2;rw [b9 _ (by rw [h2];simp)]
   .rfl
  .exact eg (by simp [aZ])
  .exact eg (by simp [aZ])
  .split
   .rename_i h1 h2;rw [b9 _ (by rw [h2];simp),b9 _ (by rw [h2];simp)]
   .rfl
  .split
   .rename_i h1 h2;rw [b9 _ (by rw [h2];simp)]
   .rfl
  .rename_i rv name
   rw [he rv (by simp [aZ,Op.operands,Call.operands]),ha]
  .rename_i f
   rw [he f (by simp [aZ,Op.operands,Call.operands]),ha]
  .rfl
 .rename_i t r aZ
  cases r with
  |none=>rfl
  |some x=>simp only;rw [he x (by simp [aZ,Op.operands])]
 .rename_i t x k ok aZ;rw [he x (by simp [aZ,Op.operands]),he k (by simp [aZ,Op.operands])]
 .rename_i t m k x aZ;rw [he m (by simp [aZ,Op.operands]),he k (by simp [aZ,Op.operands]),he x (by simp [aZ,Op.operands])]
 .rename_i t m k x aZ;rw [he m (by simp [aZ,Op.operands]),he k (by simp [aZ,Op.operands]),he x (by simp [aZ,Op.operands])]
 .rename_i t m k aZ;rw [he m (by simp [aZ,Op.operands]),he k (by simp [aZ,Op.operands])]
 .rename_i t m k x aZ;rw [he m (by simp [aZ,Op.operands]),he k (by simp [aZ,Op.operands]),he x (by simp [aZ,Op.operands])]
 .rename_i t x aZ;rw [he x (by simp [aZ,Op.operands])]
 .rename_i x xt t ok aZ;rw [he x (by simp [aZ,Op.operands])]
 .rfl
end
end Go.Am
namespace Go.Am
open Go.RowKit

section
variable {P:Program} {T:bL} {C:Fn->List ae->Heap->Option (ae × Heap)}

def fC (P:Program) (T:bL) (C:Fn->List ae->Heap->Option (ae × Heap)) (ops:Array Oper) (o:Oper) (e e1:Env) (h h1:Heap) (v:ae) (k:Nat):Prop :=
 (nP ops o e=true/\∃ h2,jc P T C e o { h with low:=h.size }=some (v,h2)/\h1={ h2 with low:=min h.low h2.low }/\e1=put e o.dst v/\k=kJ T o e h h2) \/
 (nP ops o e=false/\v=undef/\h1=h/\e1=put e o.dst undef/\k=0)

theorem ztK {ops:Array Oper}:∀ (l:List Oper) (e e':Env) (h h':Heap) (ks:List Nat),sH P T C ops l e h=some (ks,e',h') ->
 ∃ (E:Nat->Env) (H:Nat->Heap) (V:Nat->ae),E 0=e/\H 0=h/\E l.length=e'/\H l.length=h'/\ks.length=l.length /\
   ∀ i o,l[i]? = some o->fC P T C ops o (E i) (E (i+1)) (H i) (H (i+1)) (V i) (ks.getD i 2)
 | [],e,e',h,h',ks,an=>by
  simp only [sH,dY,df] at an
  obtain ⟨rfl,rfl,rfl⟩:=an
  exact ⟨λ_=>e,λ_=>h,λ_=>undef,rfl,rfl,rfl,rfl,rfl,λi o hi=>by simp at hi⟩
 |o::l,e,e',h,h',ks,an=>by
  have glue:∀ (e1:Env) (h1:Heap) (v:ae) (k:Nat) (eI:List Nat),sH P T C ops l e1 h1=some (eI,e',h')->fC P T C ops o e e1 h h1 v k->ks=k::eI ->
   ∃ (E:Nat->Env) (H:Nat->Heap) (V:Nat->ae),E 0=e/\H 0=h/\E (o::l).length=e'/\H (o::l).length=h'/\ks.length=(o::l).length /\
     ∀ i o',(o::l)[i]? = some o'->fC P T C ops o' (E i) (E (i+1)) (H i) (H (i+1)) (V i) (ks.getD i 2):=by
   intro e1 h1 v k eI hr eZ hk
   obtain ⟨E,H,V,bD,j4,xQ,Te,h5',h6'⟩:=ztK l e1 e' h1 h' eI hr
   subst hk
   refine ⟨λn=>match n with|0=>e|n+1=>E n,λn=>match n with|0=>h|n+1=>H n,λn=>match n with|0=>v|n+1=>V n,rfl,rfl,xQ,Te,by simp [h5'],?_⟩
   intro i o' hi
   cases i with
   |zero =>
    simp only [AH,dY] at hi
    subst hi
    simp only [bD,j4,List.getD_cons_zero]
    exact eZ
   |succ i =>
    have:=h6' i o' (by simpa using hi)
    simpa using this
  simp only [sH] at an
  split at an
  .rename_i hw
   split at an
   .rename_i v h2 hr
    simp only [cC,Prod.exists,df] at an
    obtain ⟨eI,x1,x2,bM,hk,rfl,rfl⟩:=an
    exact glue _ _ v _ eI bM (.inl ⟨hw,h2,hr,rfl,rfl,rfl⟩) hk.symm
   .cases an
  .rename_i hw
   simp only [cC,Prod.exists,df] at an
   obtain ⟨eI,x1,x2,bM,hk,rfl,rfl⟩:=an
   exact glue _ _ undef _ eI bM (.inr ⟨by simpa using hw,rfl,rfl,rfl,rfl⟩) hk.symm

theorem zfJ:∀ (l:List Oper) (acc:List Nat) (k:Nat),k < acc.length->(nS l acc).getD k 0=acc.getD k 0
 | [],acc,k,_=>rfl
 |o::l,acc,k,hk=>by
  rw [nS,zfJ l _ k (by simp;omega)]
  simp [mX hk]
theorem zm0:∀ (l:List Oper) (acc:List Nat) (t:Nat) (o:Oper),l[t]? = some o->∃ s9:List Nat,s9.length=acc.length+t/\(nS l acc).getD (acc.length+t) 0=UH s9 o/\∀ k,k < acc.length+t->s9.getD k 0=(nS l acc).getD k 0
 | [],acc,t,o,h=>by simp at h
 |o'::l,acc,0,o,h=>by
  simp only [AH,dY] at h
  subst h
  refine ⟨acc,rfl,?_,λk hk=>?_⟩
  .rw [nS,jh,zfJ l _ acc.length (by simp)]
   simp
  .rw [nS,zfJ l _ k (by simp;omega)]
   simp [mX (show k < acc.length by omega)]
 |o'::l,acc,t+1,o,h=>by
  obtain ⟨s9,h1,h2,h3⟩:=zm0 l (acc++[UH acc o']) t o (by simpa using h)
  simp only [cW,sW] at h1 h2 h3
  rw [show acc.length+(t+1)=acc.length+1+t by omega]
  exact ⟨s9,h1,h2,h3⟩

theorem zif {acc:List Nat} {o:Oper} {i:Nat} (h:(UH acc o).testBit i=true):∃ e∈o.after.toList,Region.binds .any e=true/\(i=e.on\/(acc.getD e.on 0).testBit i=true):=by
 have key:∀ (l:List Edge) (s:Nat),(l.foldl (λs e=>if Region.binds .any e then s ||| 2 ^ e.on ||| acc.getD e.on 0 else s) s).testBit i=true ->
  s.testBit i=true\/∃ e∈l,Region.binds .any e=true/\(i=e.on\/(acc.getD e.on 0).testBit i=true):=by
  intro l
  induction l with
  |nil=>intro s hs;exact .inl hs
  |cons e l ih =>
   intro s hs
   rw [wu] at hs
   rcases ih _ hs with h1|⟨e',h1,h2,h3⟩
   .split at h1
    .rename_i hb
     rw [Nat.testBit_or,Nat.testBit_or,qt,qt] at h1
     rcases h1 with (h1|h1)|h1
     .exact .inl h1
     .rw [Nat.testBit_two_pow] at h1
      exact .inr ⟨e,by simp,hb,.inl (of_decide_eq_true h1).symm⟩
     .exact .inr ⟨e,by simp,hb,.inr h1⟩
    .exact .inl h1
   .exact .inr ⟨e',by simp [h1],h2,h3⟩
 rcases key _ 0 h with h1|h1
 .simp at h1
 .exact h1

theorem zpr {ops:Array Oper} {S:Nat->Prop} (o9:∀ (j:Nat) (o:Oper),ops[j]? = some o->∀ e∈o.after.toList,Region.binds .any e=true->e.on < j)
 (nu:∀ (j:Nat) (o:Oper),ops[j]? = some o->S j->∀ e∈o.after.toList,Region.binds .any e=true->S e.on) :
 ∀ (n j:Nat) (o:Oper) (i:Nat),j<=n->ops[j]? = some o->(∀ e∈o.after.toList,Region.binds .any e=true->S e.on)->((nS ops.toList []).getD j 0).testBit i=true->S i:=by
 intro n
 induction n with
 |zero =>
  intro j o i hj ho hd hb
  obtain ⟨s9,h1,h2,h3⟩:=zm0 ops.toList [] j o (by simpa using ho)
  simp only [dr,iu] at h1 h2 h3
  rw [h2] at hb
  obtain ⟨e,he,pc,_⟩:=zif hb
  have:=o9 j o ho e he pc
  omega
 |succ n ih =>
  intro j o i hj ho hd hb
  obtain ⟨s9,h1,h2,h3⟩:=zm0 ops.toList [] j o (by simpa using ho)
  simp only [dr,iu] at h1 h2 h3
  rw [h2] at hb
  obtain ⟨e,he,pc,hi⟩:=zif hb
  have aP:=o9 j o ho e he pc
  have hS:=hd e he pc
  rcases hi with rfl|hi
  .exact hS
  .rw [h3 e.on aP] at hi
   have IH:j < ops.size:=(mY.1 ho).1
   have hoe:ops[e.on]? = some (ops[e.on]'(by omega)):=HO _
   exact ih e.on _ i (by omega) hoe (nu e.on _ hoe hS) hi

def eS (e0:Env) (dst:Nat->Option Tmp) (V:Nat->ae) (S:Nat->Bool):Nat->Env
 |0=>e0
 |k+1=>if S k then put (eS e0 dst V S k) (dst k) (V k) else eS e0 dst V S k

theorem Sf {e0:Env} {dst:Nat->Option Tmp} {V:Nat->ae} {S:Nat->Bool} {k:Nat} (h:S k=true):eS e0 dst V S (k+1)=put (eS e0 dst V S k) (dst k) (V k):=by simp only [eS,h,if_true]
theorem JV {e0:Env} {dst:Nat->Option Tmp} {V:Nat->ae} {S:Nat->Bool} {k:Nat} (h:S k=false):eS e0 dst V S (k+1)=eS e0 dst V S k:=by simp only [eS,h,gW,if_false]
theorem Ur (e:Env) (d:Option Tmp) (v:ae):(put e d v).length=e.length:=by cases d <;> simp [put,Env.length_set]
theorem Hz (e0:Env) (dst:Nat->Option Tmp) (V:Nat->ae) (S:Nat->Bool):∀ k,(eS e0 dst V S k).length=e0.length
 |0=>rfl
 |k+1=>by
  simp only [eS]
  split
  .rw [Ur,Hz e0 dst V S k]
  .exact Hz e0 dst V S k
theorem Jk {e:Env} {d:Option Tmp} {v:ae} {t:Nat} (h:d≠some t):(put e d v).get t=e.get t:=by
 cases d with
 |none=>rfl
 |some d=>simp only [put,Env.aR];rw [az (λhh=>h (by rw [hh.1]))]
theorem ze5 {e e':Env} (hl:e.length=e'.length) {d:Option Tmp} {v:ae} {t:Nat} (h:e.get t=e'.get t):(put e d v).get t=(put e' d v).get t:=by
 cases d with
 |none=>exact h
 |some d=>simp only [put,Env.aR,hl,h]

end
end Go.Am
namespace Go.Am
open Go.RowKit
variable {k:Nat} {v:ae} {h h' h1:Heap} {e e1:Env} {o:Oper} {ops:Array Oper} {t:TypeId}

theorem zoF {p p':Nat->Bool}:∀ (l:List Nat),(∀ k∈l,p' k=true->p k=true)->(∃ x∈l,p x=true/\p' x=false)->l.countP p' < l.countP p
 | [],_,h=>by obtain ⟨x,hx,_⟩:=h;simp at hx
 |a::l,hle,h=>by
  have afP:l.countP p'<=l.countP p:=List.countP_mono_left λk hk=>hle k (by simp [hk])
  obtain ⟨x,hx,hp,pW⟩:=h
  rw [List.countP_cons,List.countP_cons]
  rcases dG.1 hx with rfl|hx
  .simp only [hp,pW,if_true,gW,if_false]
   omega
  .have ih:=zoF l (λk hk=>hle k (by simp [hk])) ⟨x,hx,hp,pW⟩
   by_cases ha:p' a=true
   .rw [aE ha,aE (hle a (by simp) ha)];omega
   .rw [az ha];split <;> omega

section
variable {P:Program} {T:bL} {C:Fn->List ae->Heap->Option (ae × Heap)}

theorem Heap.mR (h:Heap) (x A:Nat):Heap.get { h with low:=x } A=h.get A:=rfl

theorem fC.keeps (hg:uT C) (hs:fC P T C ops o e e1 h h1 v k):bA h h1:=by
 rcases hs with ⟨_,h2,an,rfl,_,_⟩|⟨_,_,rfl,_,_⟩
 .have hk:=Hs hg an
  exact ⟨hk.size,zN _ _,λA h3 h4=>hk.get A h3 (eW h4 (EN _ _))⟩
 .exact .refl _
theorem zjz (hb:rR T o=true):kJ T o e h h'=0:=by unfold kJ;rw [aE hb]
theorem zhN (hb:¬ rR T o=true) (hl:h.size<=h'.low):kJ T o e h h' % 3≠2/\kJ T o e h h'≠0 /\
 (kJ T o e h h'=1\/(∃ t a x,o.op=.load t a/\bz e a=.pointer (some x)/\kJ T o e h h'=3+3*x.block)\/((∃ t n ps,o.op=.buildSlice t n ps)/\kJ T o e h h'=4+3*h.size)):=by
 unfold kJ
 rw [az hb,aE hl]
 split
 .rename_i t a aZ
  split
  .rename_i x hx
   exact ⟨by omega,by omega,.inr (.inl ⟨t,a,x,aZ,hx,rfl⟩)⟩
  .exact ⟨by omega,by omega,.inl rfl⟩
 .rename_i t n ps aZ
  exact ⟨by omega,by omega,.inr (.inr ⟨⟨t,n,ps,aZ⟩,rfl⟩)⟩
 .exact ⟨by omega,by omega,.inl rfl⟩
theorem Ul (hb:¬ rR T o=true) (hl:¬ h.size<=h'.low):kJ T o e h h' % 3=2 /\
 (kJ T o e h h'=2\/∃ t a y x,o.op=.store t a y/\bz e a=.pointer (some x)/\kJ T o e h h'=5+3*x.block):=by
 unfold kJ
 rw [az hb,az hl]
 split
 .rename_i t a y aZ
  split
  .rename_i x hx
   exact ⟨by omega,.inr ⟨t,a,y,x,aZ,hx,rfl⟩⟩
  .exact ⟨rfl,.inl rfl⟩
 .exact ⟨rfl,.inl rfl⟩
theorem UK {a b:Nat} (ha:a % 3=2) (hk:oM a b=true):b=0:=by
 unfold oM at hk
 simp only [qt,dP,beq_iff_eq,bne_iff_ne] at hk
 omega
theorem zxx {a b:Nat} (hb:b % 3=2) (hk:oM a b=true):a=0\/(5<=b/\((a % 3=0/\3<=a/\a+2≠b)\/(a % 3=1/\3<=a/\b+2<=a))):=by
 unfold oM at hk
 simp only [qt,dP,beq_iff_eq,bne_iff_ne,Nat.ble_eq] at hk
 omega
theorem fC.same (hg:uT C) (hs:fC P T C ops o e e1 h h1 v k) (gp:k % 3≠2):∀ A,A < h.size->h1.get A=h.get A:=by
 rcases hs with ⟨_,h2,an,rfl,_,hk⟩|⟨_,_,rfl,_,_⟩
 .intro A hA
  by_cases hb:rR T o=true
  .rw [Heap.mR,(zfy hb an).1];rfl
  .by_cases hl:h.size<=h2.low
   .exact (Hs hg an).get A hA (by omega)
   .exact (gp (by rw [hk];exact (Ul hb hl).1)).elim
 .intro A _;rfl
theorem fC.still (hs:fC P T C ops o e e1 h h1 v k) (uB:k=0):h1.size=h.size/\∀ A,h1.get A=h.get A:=by
 rcases hs with ⟨_,h2,an,rfl,_,hk⟩|⟨_,_,rfl,_,_⟩
 .by_cases hb:rR T o=true
  .obtain ⟨rfl,_⟩:=zfy hb an
   exact ⟨rfl,λ_=>rfl⟩
  .exfalso
   by_cases hl:h.size<=h2.low
   .exact (zhN hb hl).2.1 (by rw [<- hk,uB])
   .have:=(Ul (e:=e) hb hl).1
    omega
 .exact ⟨rfl,λ_=>rfl⟩
theorem fC.other (hs:fC P T C ops o e e1 h h1 v k) (gp:k % 3=2) (hk5:5<=k):∀ A,5+3*A≠k->h1.get A=h.get A:=by
 rcases hs with ⟨_,h2,an,rfl,_,hk⟩|⟨_,_,rfl,_,_⟩
 .intro A hA
  by_cases hb:rR T o=true
  .rw [zjz hb] at hk;omega
  .by_cases hl:h.size<=h2.low
   .have:=(zhN (e:=e) hb hl).1
    omega
   .rcases (Ul (e:=e) hb hl).2 with h3|⟨t,a,y,x,aZ,hx,h3⟩
    .omega
    .have ba:A≠x.block:=λe'=>by subst e';omega
     unfold jc at an
     simp only [aZ,hx,cC,df] at an
     obtain ⟨h4,hr,_,rfl⟩:=an
     rw [Heap.mR]
     obtain ⟨B,off,sp⟩:=x
     unfold iS at hr
     split at hr
     .rename_i B' o' heq
      cases heq
      simp only [cH] at hr
      obtain ⟨n,_,hr⟩:=hr
      split at hr
      .unfold kH at hr
       split at hr
       .rename_i cs e' hg
        split at hr
        .cases hr
         rw [Heap.aR _ _ _ _ (Heap.bF hg),az ba]
         rfl
        .cases hr
       .cases hr
      .cases hr
     .cases hr
 .intro A _;rfl

theorem bT.swap {ρ:cI} {w:World} (hs:bT ρ h w) (eR:∀ A L,ρ A=some L->h1.get A=h.get A\/h1.get A=none):bT ρ h1 w:=by
 refine ⟨λA L hA=>?_,λA A' L L' hA eH ba hb=>?_⟩
 .rcases eR A L hA with h2|h2
  .rw [h2];exact hs.fL A L hA
  .rw [h2];exact hs.lt hA
 .have cO:∀ B M,ρ B=some M->¬ live h B->¬ live h1 B:=by
   rintro B M hB hn ⟨b,h3,h4⟩
   rcases eR B M hB with h2|h2
   .exact hn ⟨b,by rw [<- h2];exact h3,h4⟩
   .rw [h2] at h3;cases h3
  rcases hs.inj A A' L L' hA eH ba hb with h2|h2|⟨⟨c1,e1,h2⟩,⟨c2,e2,h3⟩⟩
  .exact .inl (cO _ _ hA h2)
  .exact .inr (.inl (cO _ _ eH h2))
  .rcases eR A L hA with h4|h4
   .rcases eR A' L' eH with h5|h5
    .exact .inr (.inr ⟨⟨c1,e1,by rw [h4];exact h2⟩,⟨c2,e2,by rw [h5];exact h3⟩⟩)
    .exact .inr (.inl (by rintro ⟨b,h6,_⟩;rw [h5] at h6;cases h6))
   .exact .inl (by rintro ⟨b,h6,_⟩;rw [h4] at h6;cases h6)

theorem Fr.step {ρ0 ρ ρ':cI} {h0 hf hi hj:Heap} {w0 w w':World} (f:Fr ρ0 ρ h0 hf w0 w) (g:Fr ρ ρ' hi hj w w') (h1:hf.low<=hj.low) (h2:hj.size<=hf.size) (h3:h0.size<=hi.size):Fr ρ0 ρ' h0 hf w0 w':=by
 refine ⟨λA L hA=>g.grow A L (f.grow A L hA),?_,g.os.trans f.os,g.tape.trans f.tape,g.output.trans f.output,il f.size g.size,f.iN,f.low,?_,f.uk⟩
 .intro A L hA hn
  cases hρ:ρ A with
  |some L1 =>
   have e:L1=L:=by have:=g.grow A L1 hρ;rw [hA] at this;exact (Option.some.inj this).symm
   subst e
   exact f.fresh A L1 hρ hn
  |none =>
   obtain ⟨k1,k2,k3⟩:=g.fresh A L hA hρ
   refine ⟨by omega,by omega,?_⟩
   rcases k3 with k3|⟨A0,L0,h5,he,hl,BP⟩
   .exact .inl (il f.size k3)
   .cases G2:ρ0 A0 with
    |some L1 =>
     have e:L1=L0:=by have:=f.grow A0 L1 G2;rw [h5] at this;exact (Option.some.inj this).symm
     subst e
     exact .inr ⟨A0,L1,G2,he,by omega,by omega⟩
    |none =>
     rcases (f.fresh A0 L0 h5 G2).2.2 with h6|⟨A1,L1,h6,Yn,yw,YP⟩
     .exact .inl (by omega)
     .exact .inr ⟨A1,L1,h6,Yn.trans he,yw,YP⟩
 .intro b hb aC
  rw [g.keep b (eW hb f.size) ?_,f.keep b hb aC]
  intro A L hA hL
  cases hρ:ρ0 A with
  |some L0 =>
   have e:L0=L:=by have:=f.grow A L0 hρ;rw [hA] at this;exact (Option.some.inj this).symm
   subst e
   have:=aC A L0 hρ hL
   omega
  |none =>
   rcases (f.fresh A L hA hρ).2.2 with k1|⟨A0,L0,h5,he,hl,BP⟩
   .omega
   .have:=aC A0 L0 h5 (he.trans hL)
    omega

theorem zrL {x:Addr} {hh:Heap} (hg:hh.get x.block=h.get x.block):fW T t (.pointer (some x)) hh=fW T t (.pointer (some x)) h:=by
 obtain ⟨B,o,s⟩:=x
 cases s <;> simp only [fW,gS,hg]
theorem zzX {x:Addr} (hl:fW T t (.pointer (some x)) h=some v):x.block < h.size:=by
 rcases mq x.block h.size with h1|h1
 .exact h1
 .exfalso
  have hn:h.get x.block=none:=by unfold Heap.get;rw [az (by omega)]
  obtain ⟨B,o,s⟩:=x
  simp only at hn
  cases s with
  |some q=>cases hl
  |none =>
   simp only [fW,gS,hn,cH] at hl
   obtain ⟨g,_,hl⟩:=hl
   cases g <;> simp at hl
theorem zjb {n:Nat} {ps:List (Nat × ae)} {h2:Heap} (hb:zl T t n ps h=some (v,h2)) (hs:h1.size=h.size):∃ b,h2=h.push b/\zl T t n ps h1=some (v,h1.push b):=by
 unfold zl at hb ⊢
 split at hb
 .rename_i e hd
  simp only [cH,Prod.exists] at hb
  obtain ⟨k,wy,z,hi,hb⟩:=hb
  split at hb
  .cases hb
  .rename_i hc
   simp only [cC,df] at hb
   obtain ⟨cs,lL,rfl,rfl⟩:=hb
   refine ⟨_,rfl,?_⟩
   simp only [hi,dX]
   rw [az hc,lL,hs]
   rfl
 .cases hb
theorem zrN {t:Nat} (h:Operand.tmp t∈o.op.operands.toList):t∈o.looksAt ops:=by
 unfold Oper.looksAt
 rw [oV]
 left
 rw [List.mem_filterMap]
 exact ⟨_,h,rfl⟩

set_option maxHeartbeats 1000000 in
theorem zgp (lP:P.follows .mixedOrders=true) (hT:T.Fits P) {gs:List Nat} (hC:CS P gs C) (hg:uT C):DS P gs (rO P T C):=by
 intro rl id ops e0 e' h0 h' ρ0 a0 w0 Q an dU hG0 B7 Ys yi hQ
 unfold rO at an
 split at an
 case h_2=>cases an
 rename_i ks ee hh eu
 split at an
 case isFalse=>cases an
 rename_i DE
 cases an
 obtain ⟨E,H,V,oE,vl,hEn,BA,kF,htr⟩:=ztK ops.toList e0 e' h0 h' ks eu
 rw [qR] at hEn BA
 have rE:∀ i o,ops[i]? = some o->fC P T C ops o (E i) (E (i+1)) (H i) (H (i+1)) (V i) (ks.getD i 2):=λi o ho=>htr i o (by simpa using ho)
 have gF:∀ i,i < ops.size->∃ o,ops[i]? = some o:=λi hi=>⟨_,HO hi⟩
 have dD:∀ i j,i<=j->j<=ops.size->bA (H i) (H j):=by
  intro i j dF
  induction dF with
  |refl=>intro _;exact .refl _
  |step dF ih =>
   rename_i k
   intro hj
   obtain ⟨o,ho⟩:=gF k (by omega)
   exact (ih (by omega)).trans ((rE k o ho).keeps hg)
 have iM:∀ i j,i<=j->j<=ops.size->(∀ k,i<=k->k < j->ks.getD k 2 % 3≠2)->∀ A,A < (H i).size->(H j).get A=(H i).get A:=by
  intro i j dF
  induction dF with
  |refl=>intro _ _ A _;rfl
  |step dF ih =>
   rename_i k
   intro hj hk A hA
   obtain ⟨o,ho⟩:=gF k (by omega)
   have h1:=(rE k o ho).same hg (hk k (by omega) (xl _)) A (eW hA (dD i k (by omega) (by omega)).size)
   exact h1.trans (ih (by omega) (λq h2 h3=>hk q h2 (by omega)) A hA)
 have vt:∀ j,j < ops.size->JC ops ks (nS ops.toList []) j=true:=λj hj=>gK.1 DE j (uc.2 hj)
 have o9:∀ (j:Nat) (o:Oper),ops[j]? = some o->∀ e∈o.after.toList,Region.binds .any e=true->e.on < j:=by
  intro j o ho e he hb
  have:=vt j (mY.1 ho).1
  simp only [JC,ho,dP,gK] at this
  have h2:=this.1 e he
  simpa [hb] using h2
 have DX:∀ (i j:Nat) (oi oj:Oper),i < j->ops[i]? = some oi->ops[j]? = some oj->((nS ops.toList []).getD j 0).testBit i=true\/(oi.apart ops oj=true/\oM (ks.getD i 2) (ks.getD j 2)=true):=by
  intro i j oi oj dF BX rA
  have:=vt j (mY.1 rA).1
  simp only [JC,rA,dP,gK] at this
  have h2:=this.2 i (uc.2 dF)
  simpa [BX] using h2
 clear DE vt
 let dst:Nat->Option Tmp:=λk=>(ops[k]?).bind (·.dst)
 refine wpIn_region_any lP ?_
 have MT:∀ k,k<=ops.size->(E k).length=e0.length:=by
  intro k
  induction k with
  |zero=>intro _;rw [oE]
  |succ k ih =>
   intro hk
   obtain ⟨o,ho⟩:=gF k (by omega)
   rcases rE k o ho with ⟨_,_,_,_,h1,_⟩|⟨_,_,_,h1,_⟩ <;> rw [h1,Ur,ih (by omega)]
 have Dx:∀ k o,ops[k]? = some o->E (k+1)=put (E k) (dst k) (V k):=by
  intro k o ho
  have hd:dst k=o.dst:=by simp [dst,ho]
  rw [hd]
  rcases rE k o ho with ⟨_,_,_,_,h1,_⟩|⟨_,h2,_,h1,_⟩
  .exact h1
  .rw [h1,h2]
 have fin:∀ (listed:Array Bool) (ρ:cI) (a:Act) (w:World),(∀ k,k < ops.size->listed.getD k false=true)->cA ρ (eS e0 dst V (λk=>listed.getD k false) ops.size) a.tmps->a.defers=a0.defers ->
  (∃ m,m<=ops.size/\bT ρ (H m) w/\(∀ k,k < m->ks.getD k 2 % 3=2->listed.getD k false=true)/\(m=ops.size\/(ks.getD m 2 % 3=2/\listed.getD m false=false)))->Fr ρ0 ρ h0 h' w0 w->Q .normal a w:=by
  intro listed ρ a w aC mD vy vG dC
  obtain ⟨m,i0,kr,DO,GA⟩:=vG
  have hmn:m=ops.size:=by
   rcases GA with h1|⟨_,h1⟩
   .exact h1
   .rcases mq m ops.size with h2|h2
    .rw [aC m h2] at h1;cases h1
    .omega
  subst hmn
  rw [BA] at kr
  have heq:∀ k,k<=ops.size->eS e0 dst V (λk=>listed.getD k false) k=E k:=by
   intro k
   induction k with
   |zero=>intro _;exact oE.symm
   |succ k ih =>
    intro hk
    obtain ⟨o,ho⟩:=gF k (by omega)
    simp only [eS]
    rw [aE (aC k (by omega)),ih (by omega),Dx k o ho]
  rw [heq _ (bo _),hEn] at mD
  exact hQ ρ a w dC kr mD vy
 have zb:∀ (listed:Array Bool),listed.size=ops.size->Region.ready .any ops listed=[]->∀ k,k < ops.size->listed.getD k false=true:=by
  intro listed Tw hr k
  induction k using Nat.strongRecOn with
  |_ k ih =>
   intro hk
   cases hb:listed.getD k false with
   |true=>rfl
   |false =>
    exfalso
    obtain ⟨o,ho⟩:=gF k hk
    have b9:k∈Region.ready .any ops listed:=by
     rw [mem_ready]
     refine ⟨?_,o,ho,λe he pc=>?_⟩
     .have:k < listed.size:=by omega
      simp [this] at hb ⊢
      exact hb
     .have aP:=o9 k o ho e (by simpa using he) pc
      exact ih e.on aP (by omega)
    rw [hr] at b9
    cases b9
 have main:∀ (fuel:Nat) (listed:Array Bool) (ρ:cI) (a:Act) (w:World),listed.size=ops.size->(List.range ops.size).countP (λk => !listed.getD k false)<=fuel ->
  (∀ (j:Nat) (o:Oper),ops[j]? = some o->listed.getD j false=true->∀ e∈o.after.toList,Region.binds .any e=true->listed.getD e.on false=true) ->
  cA ρ (eS e0 dst V (λk=>listed.getD k false) ops.size) a.tmps->a.defers=a0.defers ->
  (∃ m,m<=ops.size/\bT ρ (H m) w/\(∀ k,k < m->ks.getD k 2 % 3=2->listed.getD k false=true)/\(m=ops.size\/(ks.getD m 2 % 3=2/\listed.getD m false=false))) ->
  (∀ A L,ρ A=some L->ρ0 A=some L\/∃ j,j < ops.size/\listed.getD j false=true/\(H j).size<=A/\A < (H (j+1)).size) ->
  Fr ρ0 ρ h0 h' w0 w->wpAnyIn (WR rl) 0 P .any ops Q fuel listed a w:=by
  intro fuel
  induction fuel with
  |zero =>
   intro listed ρ a w Tw vw nu mD vy vG BG dC
   have aC:∀ k,k < ops.size->listed.getD k false=true:=by
    intro k hk
    have h1:=List.countP_eq_zero.1 (Nat.le_zero.1 vw) k (uc.2 hk)
    simpa using h1
   refine ⟨?_,fin listed ρ a w aC mD vy vG dC⟩
   apply List.eq_nil_iff_forall_not_mem.2
   intro i hi
   rw [mem_ready] at hi
   obtain ⟨h1,o,ho,_⟩:=hi
   have aP:i < ops.size:=(mY.1 ho).1
   have h2:=aC i aP
   have:i < listed.size:=by omega
   simp [this] at h1 h2
   rw [h2] at h1
   cases h1
  |succ fuel ih =>
   intro listed ρ a w Tw vw nu mD vy vG BG dC
   refine ⟨λhr=>fin listed ρ a w (zb listed Tw hr) mD vy vG dC,?_⟩
   intro i hi
   rw [mem_ready] at hi
   obtain ⟨ru,o,ho,nC⟩:=hi
   have tE:i < ops.size:=(mY.1 ho).1
   have IC:listed.getD i false=false:=by
    have:i < listed.size:=by omega
    simp [this] at ru ⊢
    exact ru
   have DY:∀ e∈o.after.toList,Region.binds .any e=true->listed.getD e.on false=true:=λe he hb=>nC e (by simpa using he) hb
   have rf:∀ k,(listed.setIfInBounds i true).getD k false=(decide (k=i) || listed.getD k false):=by
    intro k
    by_cases hk:k=i
    .subst hk
     have:k < listed.size:=by omega
     simp [this]
    .simp [Jy (Ne.symm hk),hk]
   have pQ:∀ k ok,k < i->ops[k]? = some ok->listed.getD k false=false->ok.apart ops o=true/\oM (ks.getD k 2) (ks.getD i 2)=true:=by
    intro k ok qB jR hk
    rcases DX k i ok o qB jR ho with h1|h1
    .have:=zpr (S:=λj=>listed.getD j false=true) o9 nu i i o k (bo _) ho DY h1
     rw [hk] at this
     cases this
    .exact h1
   have jq:∀ j oj,i < j->ops[j]? = some oj->listed.getD j false=true->o.apart ops oj=true/\oM (ks.getD i 2) (ks.getD j 2)=true:=by
    intro j oj dF rA hj
    rcases DX i j o oj dF ho rA with h1|h1
    .have:=zpr (S:=λj=>listed.getD j false=true) o9 nu j j oj i (bo _) rA (nu j oj rA hj) h1
     rw [IC] at this
     cases this
    .exact h1
   have DN:∀ t,t∈o.looksAt ops->(eS e0 dst V (λk=>listed.getD k false) ops.size).get t=(E i).get t:=by
    intro t ht
    have p1:∀ k,k<=i->(eS e0 dst V (λk=>listed.getD k false) k).get t=(E k).get t:=by
     intro k
     induction k with
     |zero=>intro _;rw [oE];rfl
     |succ k n9 =>
      intro hk
      obtain ⟨ok,jR⟩:=gF k (by omega)
      rw [Dx k ok jR]
      simp only [eS]
      split
      .exact ze5 (by rw [Hz,MT k (by omega)]) (n9 (by omega))
      .rename_i jP
       rw [n9 (by omega),Jk]
       intro hd
       have o8:=(Oper.apart_spec (pQ k ok (by omega) jR (by simpa using jP)).1).1
       exact o8 t (by simpa [dst,jR] using hd) ht
    have p2:∀ k,i<=k->k<=ops.size->(eS e0 dst V (λk=>listed.getD k false) k).get t=(eS e0 dst V (λk=>listed.getD k false) i).get t:=by
     intro k ry
     induction ry with
     |refl=>intro _;rfl
     |step ry n9 =>
      rename_i k
      intro hk
      obtain ⟨ok,jR⟩:=gF k (by omega)
      simp only [eS]
      split
      .rename_i jP
       rw [Jk,n9 (by omega)]
       intro hd
       have ba:i≠k:=λe=>by subst e;rw [IC] at jP;cases jP
       have YJ:i<=k:=ry
       have o8:=(Oper.apart_spec (jq k ok (by omega) jR jP).1).2.2
       exact o8 t (by simpa [dst,jR] using hd) ht
      .exact n9 (by omega)
    rw [p2 _ (by omega) (bo _),p1 i (bo _)]
   have NV:∀ x∈o.op.operands.toList,bz (eS e0 dst V (λk=>listed.getD k false) ops.size) x=bz (E i) x:=by
    intro x hx
    cases x with
    |tmp t=>exact DN t (zrN hx)
    |_=>rfl
   have Om:nP ops o (eS e0 dst V (λk=>listed.getD k false) ops.size)=nP ops o (E i):=by
    unfold nP
    cases YC:o.guard with
    |none=>rfl
    |some g =>
     obtain ⟨j,b⟩:=g
     simp only
     cases hdj:(ops[j]?).bind (·.dst) with
     |none=>rfl
     |some t =>
      simp only
      rw [DN t (by unfold Oper.looksAt;rw [oV];right;simp [YC,hdj])]
   have Nv:∀ t,(eS e0 dst V (λk=>(listed.setIfInBounds i true).getD k false) ops.size).get t=(put (eS e0 dst V (λk=>listed.getD k false) ops.size) o.dst (V i)).get t:=by
    intro t
    have hdi:dst i=o.dst:=by simp [dst,ho]
    have p1:∀ k,k<=i->eS e0 dst V (λk=>(listed.setIfInBounds i true).getD k false) k=eS e0 dst V (λk=>listed.getD k false) k:=by
     intro k
     induction k with
     |zero=>intro _;rfl
     |succ k n9 =>
      intro hk
      have qB:decide (k=i)=false:=by simp;omega
      cases jP:listed.getD k false with
      |true=>rw [Sf (S:=λk=>(listed.setIfInBounds i true).getD k false) (by show (listed.setIfInBounds i true).getD k false=true;rw [rf k,jP];simp),Sf (S:=λk=>listed.getD k false) jP,n9 (by omega)]
      |false=>rw [JV (S:=λk=>(listed.setIfInBounds i true).getD k false) (by show (listed.setIfInBounds i true).getD k false=false;rw [rf k,jP,qB];rfl),JV (S:=λk=>listed.getD k false) jP,n9 (by omega)]
    have p2:∀ k,i+1<=k->k<=ops.size->(eS e0 dst V (λk=>(listed.setIfInBounds i true).getD k false) k).get t=(put (eS e0 dst V (λk=>listed.getD k false) k) o.dst (V i)).get t:=by
     intro k ry
     induction ry with
     |refl =>
      intro _
      rw [Sf (S:=λk=>(listed.setIfInBounds i true).getD k false) (by show (listed.setIfInBounds i true).getD i false=true;rw [rf i];simp),p1 i (bo _),JV (S:=λk=>listed.getD k false) IC,hdi]
     |step ry n9 =>
      rename_i k
      intro hk
      have YJ:i+1<=k:=ry
      obtain ⟨ok,jR⟩:=gF k (by omega)
      have qB:decide (k=i)=false:=by simp;omega
      have Cg:=n9 (by omega)
      cases jP:listed.getD k false with
      |true =>
       rw [Sf (S:=λk=>(listed.setIfInBounds i true).getD k false) (by show (listed.setIfInBounds i true).getD k false=true;rw [rf k,jP];simp),Sf (S:=λk=>listed.getD k false) jP]
       have o8:=(Oper.apart_spec (jq k ok (by omega) jR jP).1).2.1
       have hdk:dst k=ok.dst:=by simp [dst,jR]
       have hlen:(eS e0 dst V (λk=>(listed.setIfInBounds i true).getD k false) k).length=(eS e0 dst V (λk=>listed.getD k false) k).length:=by rw [Hz,Hz]
       by_cases Ym:o.dst=some t
       .have ba:dst k≠some t:=by rw [hdk];exact λe=>o8 t Ym e
        rw [Jk ba,Cg]
        exact ze5 (by rw [Ur]) (Jk ba).symm
       .rw [Jk Ym] at Cg
        rw [Jk Ym]
        exact ze5 hlen Cg
      |false =>
       rw [JV (S:=λk=>(listed.setIfInBounds i true).getD k false) (by show (listed.setIfInBounds i true).getD k false=false;rw [rf k,jP,qB];rfl),JV (S:=λk=>listed.getD k false) jP]
       exact Cg
    exact p2 _ (by omega) (bo _)
   have yy:(listed.setIfInBounds i true).size=ops.size:=by simp [Tw]
   have rj:(List.range ops.size).countP (λk => !(listed.setIfInBounds i true).getD k false)<=fuel:=by
    have:=zoF (p:=λk => !listed.getD k false) (p':=λk => !(listed.setIfInBounds i true).getD k false) (List.range ops.size)
     (λk _ hk=>by rw [rf k] at hk;simp at hk ⊢;exact hk.2) ⟨i,uc.2 tE,by rw [IC];rfl,by rw [rf i];simp⟩
    omega
   have nx:∀ (j:Nat) (oj:Oper),ops[j]? = some oj->(listed.setIfInBounds i true).getD j false=true->∀ e∈oj.after.toList,Region.binds .any e=true->(listed.setIfInBounds i true).getD e.on false=true:=by
    intro j oj rA hj e he hb
    rw [rf e.on]
    rw [rf j] at hj
    by_cases j6:j=i
    .subst j6
     rw [ho] at rA
     cases rA
     rw [DY e he hb]
     simp
    .have hj':listed.getD j false=true:=by simpa [j6] using hj
     rw [nu j oj rA hj' e he hb]
     simp
   have rp:∀ (ρ':cI) (u:ae),(∀ A L,ρ A=some L->ρ' A=some L)->VR ρ' (V i) u->cA ρ' (eS e0 dst V (λk=>(listed.setIfInBounds i true).getD k false) ops.size) (a.put o.dst u).tmps:=by
    intro ρ' u BL hv
    have h1:=(mD.mono BL).put hv o.dst
    exact ⟨by rw [Hz,<- h1.1,Ur,Hz],λt=>by rw [Nv t];exact h1.2 t⟩
   have rm:∀ u,(a.put o.dst u).defers=a0.defers:=λu=>by cases o.dst <;> exact vy
   obtain ⟨m,i0,kr,DO,GA⟩:=vG
   have nH:ks.getD i 2 % 3≠2->∀ (ρ':cI) (w':World),bT ρ' (H m) w'->∃ m,m<=ops.size/\bT ρ' (H m) w'/\(∀ k,k < m->ks.getD k 2 % 3=2->(listed.setIfInBounds i true).getD k false=true)/\(m=ops.size\/(ks.getD m 2 % 3=2/\(listed.setIfInBounds i true).getD m false=false)):=by
    intro uB ρ' w' dZ
    refine ⟨m,i0,dZ,λk h1 h2=>by rw [rf k,DO k h1 h2];simp,?_⟩
    rcases GA with h1|⟨h1,h2⟩
    .exact .inl h1
    .refine .inr ⟨h1,?_⟩
     have:m≠i:=λe=>by rw [e] at h1;exact uB h1
     rw [rf m,h2]
     simp [this]
   have kR:∀ (ρ':cI),(∀ A L,ρ' A=some L->ρ A=some L\/((H i).size<=A/\A < (H (i+1)).size)) ->
    ∀ A L,ρ' A=some L->ρ0 A=some L\/∃ j,j < ops.size/\(listed.setIfInBounds i true).getD j false=true/\(H j).size<=A/\A < (H (j+1)).size:=by
    intro ρ' yX A L hA
    rcases yX A L hA with h1|h1
    .rcases BG A L h1 with h2|⟨j,h2,h3,h4⟩
     .exact .inl h2
     .exact .inr ⟨j,h2,by rw [rf j,h3];simp,h4⟩
    .exact .inr ⟨i,tE,by rw [rf i];simp,h1⟩
   have pT:∀ A,(H i).size<=A->A < (H (i+1)).size->ρ A=none:=by
    intro A h1 h2
    cases hA:ρ A with
    |none=>rfl
    |some L =>
     exfalso
     rcases BG A L hA with h3|⟨j,h3,h4,h5,h6⟩
     .have h7:=(dD 0 i (by omega) (by omega)).size
      have h8:=(dD (i+1) ops.size (by omega) (bo _)).size
      rw [vl] at h7
      rw [BA] at h8
      rw [Ys A (by omega) (by omega)] at h3
      cases h3
     .have j6:j≠i:=λe=>by subst e;rw [IC] at h4;cases h4
      rcases mq j i with aP|lq
      .have:=(dD (j+1) i (by omega) (by omega)).size
       omega
      .have:=(dD (i+1) j (by omega) (by omega)).size
       omega
   unfold wpOpIn
   simp only [ho]
   rw [zqy mD,Om]
   rcases rE i o ho with ⟨iE,h2,nz,Tg,_,hk⟩|⟨iE,hv,Tg,_,hk⟩
   .rw [aE iE]
    have uD:lE ρ o:=(dU o (by simpa using Array.mem_of_getElem? ho)).mono dC.grow
    have hG:=hG0.mono dC.grow
    have BJ:∀ hx,jc P T C (eS e0 dst V (λk=>listed.getD k false) ops.size) o hx=jc P T C (E i) o hx:=λhx=>zoV hx NV
    by_cases hb:rR T o=true
    .rw [zjz hb] at hk
     have Gf:=(zfy hb nz).2 (H m)
     have jP:ks.getD i 2 % 3≠2:=by omega
     have yL:=Jb (h':=H m) hT hC hG kr mD uD (λA h1 h2=>by omega) (by rw [BJ];exact Gf)
     refine yL.wp (I7 nz) λρ' u w' f1 s1 v1=>?_
     have iM:∀ A L,ρ' A=some L->ρ A=some L:=by
      intro A L hA
      cases hρ:ρ A with
      |some L1=>have:=f1.grow A L1 hρ;rw [hA] at this;exact this.symm
      |none=>have:=f1.fresh A L hA hρ;omega
     refine ih _ ρ' _ w' yy rj nx (rp ρ' u f1.grow v1) (rm u) (nH jP ρ' w' s1) (kR ρ' λA L hA=>.inl (iM A L hA)) ?_
     have k1:=dD m ops.size i0 (bo _)
     have k2:=dD 0 m (by omega) i0
     rw [BA] at k1
     rw [vl] at k2
     exact dC.step f1 k1.low k1.size k2.size
    .have kI:=dD i ops.size (by omega) (bo _)
     have TJ:=dD (i+1) ops.size (by omega) (bo _)
     have TI:=dD 0 i (by omega) (by omega)
     rw [BA] at kI TJ
     rw [vl] at TI
     have oI:(H (i+1)).size=h2.size:=by rw [Tg]
     have uC:h'.low<=h2.low:=by
      have h3:=TJ.low
      rw [Tg] at h3
      exact il h3 (EN _ _)
     have yk:∀ A,(H (i+1)).get A=h2.get A:=λA=>by rw [Tg];rfl
     by_cases eN:(H i).size<=h2.low
     ./- it turns nothing that is there -/
      obtain ⟨pU,uB,yr⟩:=zhN (T:=T) (e:=E i) hb eN
      rw [<- hk] at pU uB yr
      have vB:i < m:=by
       rcases GA with h3|⟨h3,h4⟩
       .omega
       .rcases mq i m with h5|h5
        .exact h5
        .exfalso
         have ba:m≠i:=λe=>by rw [e] at h3;exact pU h3
         obtain ⟨om,NU⟩:=gF m (by omega)
         exact uB (UK h3 (pQ m om (by omega) NU h4).2)
      have uH:∀ k,i<=k->k < m->ks.getD k 2 % 3=2->5<=ks.getD k 2/\((ks.getD i 2 % 3=0/\3<=ks.getD i 2/\ks.getD i 2+2≠ks.getD k 2)\/(ks.getD i 2 % 3=1/\3<=ks.getD i 2/\ks.getD k 2+2<=ks.getD i 2)):=by
       intro k h3 h4 h5
       have ba:k≠i:=λe=>by rw [e] at h5;exact pU h5
       have h6:=DO k h4 h5
       obtain ⟨ok,jR⟩:=gF k (by omega)
       rcases zxx h5 (jq k ok (by omega) jR h6).2 with h8|h8
       .exact (uB h8).elim
       .exact h8
      have BE:∀ (B j:Nat),i<=j->j<=m->B < (H j).size->(∀ k,i<=k->k < m->ks.getD k 2 % 3=2->5+3*B≠ks.getD k 2)->(H m).get B=(H j).get B:=by
       intro B j h3 h4 h5 h6
       have hx:∀ d,j+d<=m->(H (j+d)).get B=(H j).get B:=by
        intro d
        induction d with
        |zero=>intro _;rfl
        |succ d Oq =>
         intro hd
         obtain ⟨ok,jR⟩:=gF (j+d) (by omega)
         have h7:=Oq (by omega)
         have h8:B < (H (j+d)).size:=eW h5 (dD j (j+d) (by omega) (by omega)).size
         rw [<- h7]
         by_cases h9:ks.getD (j+d) 2 % 3=2
         .exact (rE (j+d) ok jR).other h9 (uH (j+d) (by omega) (by omega) h9).1 B (h6 (j+d) (by omega) (by omega) h9)
         .exact (rE (j+d) ok jR).same hg h9 B h8
       have h7:=hx (m - j) (by omega)
       rwa [show j+(m - j)=m by omega] at h7
      by_cases pg:∃ t a x,o.op=.load t a/\bz (E i) a=.pointer (some x)/\ks.getD i 2=3+3*x.block
      .obtain ⟨t,a',x,aZ,hx,hkv⟩:=pg
       have Gf:jc P T C (E i) o (H m)=some (V i,H m):=by
        unfold jc at nz ⊢
        simp only [aZ,hx,cC,df] at nz ⊢
        obtain ⟨r,hr,h3,_⟩:=nz
        refine ⟨r,?_,h3,trivial⟩
        have aP:x.block < (H i).size:=zzX hr
        rw [zrL (h:={ H i with low:=(H i).size }) (by rw [Heap.mR];exact BE x.block i (bo _) (by omega) aP (λk h4 h5 h6=>by have:=(uH k h4 h5 h6).2;omega))]
        exact hr
       have yL:=Jb (h':=H m) hT hC hG kr mD uD (λA h1 h2=>by omega) (by rw [BJ];exact Gf)
       refine yL.wp (I7 nz) λρ' u w' f1 s1 v1=>?_
       have iM:∀ A L,ρ' A=some L->ρ A=some L:=by
        intro A L hA
        cases hρ:ρ A with
        |some L1=>have:=f1.grow A L1 hρ;rw [hA] at this;exact this.symm
        |none=>have:=f1.fresh A L hA hρ;omega
       refine ih _ ρ' _ w' yy rj nx (rp ρ' u f1.grow v1) (rm u) (nH pU ρ' w' s1) (kR ρ' λA L hA=>.inl (iM A L hA)) ?_
       have k1:=dD m ops.size i0 (bo _)
       have k2:=dD 0 m (by omega) i0
       rw [BA] at k1
       rw [vl] at k2
       exact dC.step f1 k1.low k1.size k2.size
      have YY:∃ hx FP:Heap,hx.size=(H i).size/\bT ρ hx w/\jc P T C (E i) o hx=some (V i,FP)/\FP.size=h2.size/\h'.low<=FP.low/\(H i).size<=FP.low/\∀ A,(H i).size<=A->A < h2.size->(H m).get A=FP.get A:=by
       rcases yr with h3|h3|⟨⟨t,n,ps,aZ⟩,hkv⟩
       .have jd:∀ k,i<=k->k < m->ks.getD k 2 % 3≠2:=by
         intro k h4 h5 h6
         have:=(uH k h4 h5 h6).2
         omega
        have hgI:∀ A,A < (H i).size->(H m).get A=(H i).get A:=iM i m (by omega) i0 jd
        have Gp:∀ A,A < (H (i+1)).size->(H m).get A=(H (i+1)).get A:=iM (i+1) m (by omega) i0 (λk h3 h4=>jd k (by omega) h4)
        refine ⟨{ H i with low:=(H i).size },h2,rfl,?_,nz,rfl,uC,eN,λA h4 h5=>by rw [Gp A (by omega),yk A]⟩
        refine kr.swap λA L hA=>?_
        rw [Heap.mR]
        rcases mq A (H i).size with h3|h3
        .exact .inl (hgI A h3).symm
        .right
         unfold Heap.get
         rw [az (by omega)]
       .exact (pg h3).elim
       .have aoO:=(dD i m (by omega) i0).size
        have Gg:=nz
        unfold jc at Gg
        simp only [aZ] at Gg
        obtain ⟨b,qw,Yd⟩:=zjb (h1:=(⟨(H i).size,(H m).tr,(H i).size⟩:Heap)) Gg rfl
        have yx:h2.low=(H i).size:=by rw [qw];rfl
        have B9:h2.size=(H i).size+1:=by rw [qw];rfl
        refine ⟨⟨(H i).size,(H m).tr,(H i).size⟩,_,rfl,?_,by unfold jc;simp only [aZ];exact Yd,by rw [B9];rfl,by rw [yx] at uC;exact uC,bo _,λA h4 h5=>?_⟩
        .refine kr.swap λA L hA=>?_
         unfold Heap.get
         rcases mq A (H i).size with h3|h3
         .left
          rw [aE h3,aE (by omega)]
         .right
          rw [az (show ¬ A < (H i).size by omega)]
        .have hA:A=(H i).size:=by omega
         subst hA
         rw [BE _ (i+1) (by omega) (by omega) (by rw [oI,B9];omega) (λk h6 h7 h8=>by have:=(uH k h6 h7 h8).2;omega),yk,qw,Heap.bx,Heap.bx,aE rfl,aE rfl]
      obtain ⟨hx,FP,lr,yN,Yq,h2s,yx,YE,hN⟩:=YY
      have yL:=Jb (h':=FP) hT hC hG yN mD uD (λA h3 h4=>pT A (by omega) (by omega)) (by rw [BJ];exact Yq)
      refine yL.wp (I7 nz) λρ' u w' f1 s1 v1=>?_
      have hU:∀ A L,ρ' A=some L->ρ A=none->(H i).size<=A/\A < h2.size/\w.heap.size<=L.b:=by
       intro A L hA hn
       obtain ⟨h3,h4,h5⟩:=f1.fresh A L hA hn
       refine ⟨by omega,by omega,?_⟩
       rcases h5 with h5|⟨A0,L0,h6,_,h7,h8⟩
       .exact h5
       .rw [pT A0 (by omega) (by omega)] at h6
        cases h6
      have GY:∀ b,b < w.heap.size->w'.heap[b]? = w.heap[b]? := by
       intro b nW
       refine f1.keep b nW λA L hA _=>?_
       rcases mq A (H i).size with h3|h3
       .left;omega
       .right
        rcases mq A h2.size with h4|h4
        .rw [pT A h3 (by omega)] at hA;cases hA
        .omega
      have yM:bT ρ' (H m) w':=by
       refine ⟨λA L hA=>?_,λA A' L L' hA eH ba uy=>?_⟩
       .cases hρ:ρ A with
        |none =>
         obtain ⟨h3,h4,_⟩:=hU A L hA hρ
         rw [hN A h3 h4]
         exact s1.fL A L hA
        |some L1 =>
         have e:L1=L:=by have:=f1.grow A L1 hρ;rw [hA] at this;exact (Option.some.inj this).symm
         subst e
         exact (kr.fL A L1 hρ).keep f1.grow f1.size λ_=>GY L1.b (kr.lt hρ)
       .cases hρ:ρ A with
        |none =>
         obtain ⟨h3,h4,h5⟩:=hU A L hA hρ
         cases yX:ρ A' with
         |none =>
          obtain ⟨h6,h7,h8⟩:=hU A' L' eH yX
          have hx:=s1.inj A A' L L' hA eH ba uy
          unfold live nE at hx ⊢
          rw [hN A h3 h4,hN A' h6 h7]
          exact hx
         |some L1 =>
          have e:L1=L':=by have:=f1.grow A' L1 yX;rw [eH] at this;exact (Option.some.inj this).symm
          subst e
          have:=kr.lt yX
          omega
        |some L1 =>
         have e:L1=L:=by have:=f1.grow A L1 hρ;rw [hA] at this;exact (Option.some.inj this).symm
         subst e
         cases yX:ρ A' with
         |none =>
          obtain ⟨h6,h7,h8⟩:=hU A' L' eH yX
          have:=kr.lt hρ
          omega
         |some L2 =>
          have e:L2=L':=by have:=f1.grow A' L2 yX;rw [eH] at this;exact (Option.some.inj this).symm
          subst e
          exact kr.inj A A' L1 L2 hρ yX ba uy
      refine ih _ ρ' _ w' yy rj nx (rp ρ' u f1.grow v1) (rm u) ?_ (kR ρ' λA L hA=>?_) (dC.step f1 yx (by have:=TJ.size;omega) (by rw [lr];exact TI.size))
      .refine ⟨m,i0,yM,λk h3 h4=>by rw [rf k,DO k h3 h4];simp,?_⟩
       rcases GA with h3|⟨h3,h4⟩
       .exact .inl h3
       .refine .inr ⟨h3,?_⟩
        rw [rf m,h4,show decide (m=i)=false by simp;omega]
        rfl
      .cases hρ:ρ A with
       |none=>right;have:=hU A L hA hρ;omega
       |some L1=>left;have:=f1.grow A L1 hρ;rw [hA] at this;rw [this]
     .obtain ⟨pU,_⟩:=Ul (T:=T) (e:=E i) hb eN
      rw [<- hk] at pU
      have hmi:m=i:=by
       rcases R5 m i with h3|h3|h3
       .exfalso
        rcases GA with h4|⟨h4,h5⟩
        .omega
        .obtain ⟨om,NU⟩:=gF m (by omega)
         have:=UK h4 (pQ m om h3 NU h5).2
         omega
       .exact h3
       .have:=DO i h3 pU
        rw [IC] at this
        cases this
      subst hmi
      have yN:bT ρ { H m with low:=(H m).size } w:=kr.swap λA L _=>.inl rfl
      have yL:=Jb (h':=h2) hT hC hG yN mD uD (λA h3 h4=>pT A h3 (by omega)) (by rw [BJ];exact nz)
      refine yL.wp (I7 nz) λρ' u w' f1 s1 v1=>?_
      have gd:∃ m',m+1<=m'/\m'<=ops.size/\(∀ k,m+1<=k->k < m'->ks.getD k 2 % 3≠2)/\(m'=ops.size\/ks.getD m' 2 % 3=2):=by
       have hx:∀ d,d<=ops.size - (m+1)->(∀ k,m+1<=k->k < m+1+d->ks.getD k 2 % 3≠2)\/∃ m',m+1<=m'/\m'<=ops.size/\(∀ k,m+1<=k->k < m'->ks.getD k 2 % 3≠2)/\(m'=ops.size\/ks.getD m' 2 % 3=2):=by
        intro d
        induction d with
        |zero=>intro _;left;intro k h3 h4;omega
        |succ d Oq =>
         intro hd
         rcases Oq (by omega) with h3|h3
         .by_cases h4:ks.getD (m+1+d) 2 % 3=2
          .exact .inr ⟨m+1+d,by omega,by omega,h3,.inr h4⟩
          .left
           intro k h5 h6
           by_cases h7:k=m+1+d
           .rw [h7];exact h4
           .exact h3 k h5 (by omega)
         .exact .inr h3
       rcases hx (ops.size - (m+1)) (bo _) with h3|h3
       .exact ⟨ops.size,by omega,bo _,λk h4 h5=>h3 k h4 (by omega),.inl rfl⟩
       .exact h3
      obtain ⟨m',YW,Gz,NK,YX⟩:=gd
      have Gp:∀ A,A < (H (m+1)).size->(H m').get A=(H (m+1)).get A:=iM (m+1) m' YW Gz NK
      have BH:∀ A L,ρ A=some L->A < h2.size\/(ρ0 A=some L/\h'.size<=A):=by
       intro A L hA
       rcases BG A L hA with h3|⟨j,h3,h4,h5,h6⟩
       .rcases mq A h2.size with h7|h7
        .exact .inl h7
        .rcases mq A h'.size with h8|h8
         .have h9:=TI.size
          have h10:=(dD m (m+1) (by omega) (by omega)).size
          rw [Ys A (by omega) h8] at h3
          cases h3
         .exact .inr ⟨h3,h8⟩
       .left
        rcases mq j (m+1) with h7|h7
        .have:=(dD (j+1) (m+1) (by omega) (by omega)).size
         omega
        .exfalso
         obtain ⟨oj,rA⟩:=gF j h3
         have h9:ks.getD j 2=0:=UK pU (jq j oj (by omega) rA h4).2
         have:=((rE j oj rA).still h9).1
         omega
      have yM:bT ρ' (H m') w':=by
       refine s1.swap λA L hA=>?_
       have eH:A < h2.size\/h'.size<=A:=by
        cases hρ:ρ A with
        |none=>left;exact (f1.fresh A L hA hρ).2.1
        |some L1 =>
         rcases BH A L1 hρ with h3|h3
         .exact .inl h3
         .exact .inr h3.2
       rcases eH with h3|h3
       .left
        rw [Gp A (by omega),yk A]
       .right
        have h4:=(dD m' ops.size Gz (bo _)).size
        rw [BA] at h4
        unfold Heap.get
        rw [az (by omega)]
      refine ih _ ρ' _ w' yy rj nx (rp ρ' u f1.grow v1) (rm u) ⟨m',Gz,yM,?_,?_⟩ (kR ρ' λA L hA=>?_) (dC.step f1 uC (by have:=TJ.size;omega) TI.size)
      .intro k h3 h4
       rw [rf k]
       rcases mq k (m+1) with h5|h5
       .by_cases h6:k=m
        .simp [h6]
        .rw [DO k (by omega) h4];simp
       .exact (NK k h5 h3 h4).elim
      .rcases YX with h3|h3
       .exact .inl h3
       .rcases mq m' ops.size with h4|h4
        .refine .inr ⟨h3,?_⟩
         rw [rf m',show decide (m'=m)=false by simp;omega,Ih]
         cases nW:listed.getD m' false with
         |false=>rfl
         |true =>
          exfalso
          obtain ⟨om,NU⟩:=gF m' h4
          have:=UK pU (jq m' om (by omega) NU nW).2
          omega
        .exact .inl (by omega)
      .cases hρ:ρ A with
       |none =>
        right
        obtain ⟨h3,h4,_⟩:=f1.fresh A L hA hρ
        have xQ:(H m).size<=A:=h3
        omega
       |some L1=>left;have:=f1.grow A L1 hρ;rw [hA] at this;rw [this]
   .rw [az (by rw [iE];simp)]
    refine ⟨λ_ _=>trivial,?_⟩
    have hu:VR ρ (V i) undef:=by rw [hv];exact .undef ρ
    exact ih _ ρ _ w yy rj nx (rp ρ undef (λ_ _ h=>h) hu) (rm undef) (nH (by omega) ρ w kr) (kR ρ λA L hA=>.inl hA) dC
 have uB:=dD 0 ops.size (by omega) (bo _)
 rw [vl,BA] at uB
 have tB:∀ k,(Array.replicate ops.size false).getD k false=false:=by
  intro k
  rcases mq k ops.size with h1|h1 <;> simp [h1]
 have rz:∀ k,eS e0 dst V (λk=>(Array.replicate ops.size false).getD k false) k=e0:=by
  intro k
  induction k with
  |zero=>rfl
  |succ k ih=>rw [JV (S:=λk=>(Array.replicate ops.size false).getD k false) (tB k),ih]
 refine main ops.size _ ρ0 a0 _ (by simp) (by have:=List.countP_le_length (p:=λk => !(Array.replicate ops.size false).getD k false) (l:=List.range ops.size);simpa using this) ?_ ?_ rfl ?_ ?_ ?_
 .intro j o _ hj
  rw [tB j] at hj
  cases hj
 .rw [rz];exact yi
 ./- the first that may turn something -/
  have Gj:∃ m,m<=ops.size/\(∀ k,k < m->ks.getD k 2 % 3≠2)/\(m=ops.size\/ks.getD m 2 % 3=2):=by
   have hx:∀ d,d<=ops.size->(∀ k,k < d->ks.getD k 2 % 3≠2)\/∃ m,m<=ops.size/\(∀ k,k < m->ks.getD k 2 % 3≠2)/\(m=ops.size\/ks.getD m 2 % 3=2):=by
    intro d
    induction d with
    |zero=>intro _;left;intro k h4;omega
    |succ d Oq =>
     intro hd
     rcases Oq (by omega) with h3|h3
     .by_cases h4:ks.getD d 2 % 3=2
      .exact .inr ⟨d,by omega,h3,.inr h4⟩
      .left
       intro k h6
       by_cases h7:k=d
       .rw [h7];exact h4
       .exact h3 k (by omega)
     .exact .inr h3
   rcases hx ops.size (bo _) with h3|h3
   .exact ⟨ops.size,bo _,h3,.inl rfl⟩
   .exact h3
  obtain ⟨m,i0,kr,DO⟩:=Gj
  refine ⟨m,i0,?_,λk h1 h2=>(kr k h1 h2).elim,?_⟩
  .have ka:bT ρ0 h0 { w0 with drawn:=w0.drawn+1 }:=B7.same rfl
   refine ka.swap λA L hA=>?_
   rcases mq A h0.size with h1|h1
   .left
    have:=iM 0 m (by omega) i0 (λk _ h3=>kr k h3) A (by rw [vl];exact h1)
    rw [this,vl]
   .rcases mq A h'.size with h2|h2
    .rw [Ys A h1 h2] at hA;cases hA
    .right
     have h4:=(dD m ops.size i0 (bo _)).size
     rw [BA] at h4
     unfold Heap.get
     rw [az (by omega)]
  .rcases DO with h1|h1
   .exact .inl h1
   .exact .inr ⟨h1,tB m⟩
 .intro A L hA;exact .inl hA
 .exact ⟨λ_ _ h=>h,λA L h1 h2=>(by rw [h1] at h2;cases h2),rfl,rfl,rfl,bo _,uB.size,uB.low,λ_ _ _=>rfl,uB.get⟩
end
end Go.Am
namespace Go.Am
open Go.RowKit
variable {C:Fn->List ae->Heap->Option (ae × Heap)} {v:ae} {h h':Heap} {E:Code->Env->Heap->Option (Ex × Env × Heap)} {fn:Func} {ρ:cI}

abbrev Ov:=FuncId->Option (List ae->Heap->Option (ae × Heap))

def iI:Env->List Tmp->List ae->Env
 |e,t::ts,v::vs=>iI (e.set t v) ts vs
 |e,_,_=>e
def CD (A:Nat) (jump:Option Code) (h:Heap):Option (ae × Heap) :=
 match h.get A with
 |some (.loop env ps assign body _ _)=>some (.bool jump.isNone,h.set A (.loop env ps assign body (if jump.isNone then .ready else .done) jump))
 |_=>none
def EL (E:Code->Env->Heap->Option (Ex × Env × Heap)) (A:Nat) (args:List ae) (h:Heap):Option (ae × Heap) :=
 match h.get A with
 |some (.loop env ps assign body _ _) =>
  if args.length=ps.length then
   match E assign (iI env ps args) h with
   |some (.normal,e1,h1)=>match h1.get A with
    |some (.loop tq Hc pA xu .ready k5) =>
     (match E body e1 (h1.set A (.loop tq Hc pA xu .busy k5)) with
     |some (.normal,_,h2)=>CD A none h2
     |some (.ret,_,h2)=>CD A (some .ret) h2
     |some (.exit id,_,h2)=>CD A (some (.exit id)) h2
     |none=>none)
    |_=>none
   |_=>none
  else none
 |_=>none

def zrl (d:Oper):Option Tmp:=match d.op with
 | .defer ⟨.value (.tmp t),args,_⟩=>if args.isEmpty && d.guard.isNone && d.dst.isNone then some t else none
 |_=>none
def C4:Code->Option (List Code × Oper × Tmp × Code)
 | .seq (.region id ops false) b=>(match ops.toList with
  | [m,d]=>(match zrl d with
   |some t=>if m.guard.isNone then some ([],m,t,b) else (C4 b).map λ(pre,m,t,r)=>(.region id ops false::pre,m,t,r)
   |none=>(C4 b).map λ(pre,m,t,r)=>(.region id ops false::pre,m,t,r))
  |_=>(C4 b).map λ(pre,m,t,r)=>(.region id ops false::pre,m,t,r))
 | .seq a b=>(C4 b).map λ(pre,m,t,r)=>(a::pre,m,t,r)
 |_=>none
def zx (E:Code->Env->Heap->Option (Ex × Env × Heap)):List Code->Env->Heap->Option (Env × Heap)
 | [],e,h=>some (e,h)
 |c::cs,e,h=>match E c e h with
  |some (.normal,e',h')=>zx E cs e' h'
  |_=>none
section
variable (P:Program) (T:bL)
def we (E:Code->Env->Heap->Option (Ex × Env × Heap)) (fn:Func) (g:ae) (e3:Env) (h3:Heap):Option (ae × Heap) :=
 match g with
 | .func (.func g) fi ca=>(T.fn g).bind λfg=>fg.body.bind λcg=>if nO cg then
  (match E cg ((fi.toList++ca.toList)++List.replicate (fg.ntmps - (fi.toList++ca.toList).length) undef) h3 with
  |some (.ret,e4,h4)=>(mV T fg e4 h4).bind λ_=>(mV T fn e3 h4).map λv=>(v,h4)
  |some (.normal,e4,h4)=>(mV T fg e4 h4).bind λ_=>(mV T fn e3 h4).map λv=>(v,h4)
  |_=>none)
  else none
 |_=>none
def EF (E:Code->Env->Heap->Option (Ex × Env × Heap)) (C:Fn->List ae->Heap->Option (ae × Heap)) (fn:Func) (c:Code) (e:Env) (h:Heap):Option (ae × Heap) :=
 (C4 c).bind λ(pre,m,t,rest)=>if pre.all nO && nO rest then
  (zx E pre e h).bind λ(e1,h1)=>(jc P T C e1 m h1).bind λ(v,h2) =>
   match E rest (put e1 m.dst v) h2 with
   |some (.ret,e3,h3)=>we T E fn ((put e1 m.dst v).get t) e3 h3
   |some (.normal,e3,h3)=>we T E fn ((put e1 m.dst v).get t) e3 h3
   |_=>none
 else none
end

def call (P:Program) (T:bL) (ov:Ov):Nat->Fn->List ae->Heap->Option (ae × Heap)
 |0,_,_,_=>none
 |n+1,.func f,args,h =>
  match ov f with
  |some g=>g args h
  |none =>
   (T.fn f).bind λfn=>fn.body.bind λc =>
   if T.MC f then EF P T (en P T (call P T ov n) (rO P T (call P T ov n)) none n) (call P T ov n) fn c (args++List.replicate (fn.ntmps - args.length) undef) h else
   match en P T (call P T ov n) (rO P T (call P T ov n)) none n c (args++List.replicate (fn.ntmps - args.length) undef) h with
   |some (.ret,e,h')=>(mV T fn e h').map λv=>(v,h')
   |some (.normal,e,h')=>(mV T fn e h').map λv=>(v,h')
   |_=>none
 |n+1,.yield A,args,h=>EL (en P T (call P T ov n) (rO P T (call P T ov n)) (some A) n) A args h
 |_,_,_,_=>none

def Di (P:Program) (gs:List Nat) (ov:Ov):Prop :=
 ∀ f g,ov f=some g->∀ args h v h',g args h=some (v,h')->bA h h'/\∀ ρ w (aL:Array ae),dt gs ρ->bT ρ h w->fO ρ h h'->cB ρ args aL.toList->zBG P ρ h h' w v f aL

section
variable {P:Program} {T:bL} {ov:Ov}

theorem zkE (hg:uT C) {ops:Array Oper} (l:List Oper) (e e':Env) (h h':Heap) (ks:List Nat) (an:sH P T C ops l e h=some (ks,e',h')):bA h h':=by
 induction l generalizing e h ks with
 |nil=>simp only [sH,dY,df] at an;obtain ⟨_,_,rfl⟩:=an;exact .refl _
 |cons o l ih =>
  simp only [sH] at an
  split at an
  .split at an
   .rename_i v h2 hr
    simp only [cC,Prod.exists,df] at an
    obtain ⟨eI,x1,x2,bM,_,rfl,rfl⟩:=an
    have hk:=Hs hg hr
    refine bA.trans ?_ (ih _ _ _ bM)
    exact ⟨hk.size,zN _ _,λA h3 h4=>hk.get A h3 (eW h4 (EN _ _))⟩
   .cases an
  .simp only [cC,Prod.exists,df] at an
   obtain ⟨eI,x1,x2,bM,_,rfl,rfl⟩:=an
   exact ih _ _ _ bM

theorem Ho (hg:uT C):zwj (rO P T C):=by
 intro ops e h e' h' an
 unfold rO at an
 split at an
 .rename_i hr
  split at an
  .cases an;exact zkE hg _ _ _ _ _ _ hr
  .cases an
 .cases an

theorem TX {A:Nat} {jump:Option Code} (an:CD A jump h=some (v,h')):bA h h':=by
 unfold CD at an
 split at an
 .rename_i hg;cases an;exact .set _ (Heap.bF hg)
 .cases an
theorem zp3 (hE:∀ c e h x e' h',E c e h=some (x,e',h')->bA h h') {A:Nat} {args:List ae} (an:EL E A args h=some (v,h')):bA h h':=by
 unfold EL at an
 split at an
 .split at an
  .split at an
   .rename_i h1 wK
    split at an
    .rename_i DI
     have hk:∀ b,bA h (h1.set A b):=λb=>(hE _ _ _ _ _ _ wK).trans (bA.set b (Heap.bF DI))
     split at an
     .rename_i j9;exact ((hk _).trans (hE _ _ _ _ _ _ j9)).trans (TX an)
     .rename_i j9;exact ((hk _).trans (hE _ _ _ _ _ _ j9)).trans (TX an)
     .rename_i j9;exact ((hk _).trans (hE _ _ _ _ _ _ j9)).trans (TX an)
     .cases an
    .cases an
   .cases an
  .cases an
 .cases an

theorem T4 {E:Code->Env->Heap->Option (Ex × Env × Heap)} (hE:∀ c e h x e' h',E c e h=some (x,e',h')->bA h h'):∀ (pre:List Code) (e e':Env) (h h':Heap),zx E pre e h=some (e',h')->bA h h'
 | [],e,e',h,h',an=>by simp only [zx,dY,df] at an;obtain ⟨_,rfl⟩:=an;exact .refl _
 |c::cs,e,e',h,h',an=>by
  simp only [zx] at an
  split at an
  .rename_i hr
   exact (hE _ _ _ _ _ _ hr).trans (T4 hE cs _ _ _ _ an)
  .cases an
theorem Ht (hE:∀ c e h x e' h',E c e h=some (x,e',h')->bA h h') {g:ae} {e3:Env} {h3:Heap} (an:we T E fn g e3 h3=some (v,h')):bA h3 h':=by
 unfold we at an
 split at an
 .simp only [cH] at an
  obtain ⟨fg,_,cg,_,an⟩:=an
  split at an
  .split at an
   .rename_i hr
    simp only [cH,cC,df] at an
    obtain ⟨_,_,_,_,_,rfl⟩:=an
    exact hE _ _ _ _ _ _ hr
   .rename_i hr
    simp only [cH,cC,df] at an
    obtain ⟨_,_,_,_,_,rfl⟩:=an
    exact hE _ _ _ _ _ _ hr
   .cases an
  .cases an
 .cases an
theorem zoJ (hC:uT C) (hE:∀ c e h x e' h',E c e h=some (x,e',h')->bA h h') {c:Code} {e:Env} (an:EF P T E C fn c e h=some (v,h')):bA h h':=by
 unfold EF at an
 simp only [cH,Prod.exists] at an
 obtain ⟨pre,m,t,rest,_,an⟩:=an
 split at an
 .simp only [cH,Prod.exists] at an
  obtain ⟨e1,h1,hp,v1,h2,ho,an⟩:=an
  split at an
  .rename_i hr
   exact (((T4 hE _ _ _ _ _ hp).trans (Hs hC ho)).trans (hE _ _ _ _ _ _ hr)).trans (Ht hE an)
  .rename_i hr
   exact (((T4 hE _ _ _ _ _ hp).trans (Hs hC ho)).trans (hE _ _ _ _ _ _ hr)).trans (Ht hE an)
  .cases an
 .cases an
theorem zll {gs:List Nat} (qE:Di P gs ov):∀ n,uT (call P T ov n)
 |0=>by intro f args h v h' an;simp [call] at an
 |n+1=>by
  intro f args h v h' an
  have ih:=zll qE n
  cases f with
  |func f =>
   simp only [call] at an
   split at an
   .rename_i g hg
    exact (qE f g hg args h v h' an).1
   .simp only [cH] at an
    obtain ⟨fn,_,c,_,an⟩:=an
    split at an
    .exact zoJ ih (λc e h x e' h' hr=>Hn ih (Ho ih) _ _ _ _ _ _ _ _ hr) an
    split at an
    .rename_i hr
     simp only [cC,df] at an
     obtain ⟨_,_,_,rfl⟩:=an
     exact Hn ih (Ho ih) _ _ _ _ _ _ _ _ hr
    .rename_i hr
     simp only [cC,df] at an
     obtain ⟨_,_,_,rfl⟩:=an
     exact Hn ih (Ho ih) _ _ _ _ _ _ _ _ hr
    .cases an
  |yield A =>
   simp only [call] at an
   exact zp3 (λc e h x e' h' hr=>Hn ih (Ho ih) _ _ _ _ _ _ _ _ hr) an
  |_=>simp [call] at an

theorem cA.enter {args:List ae} {aL:Array ae} (hv:cB ρ args aL.toList) (n:Nat):cA ρ (args++List.replicate (n - args.length) undef) (aL++Array.replicate (n - aL.size) undef):=by
 have hl:args.length=aL.size:=by simpa using hv.1
 refine ⟨by simp [hl],λi=>?_⟩
 rw [Env.get_eq]
 rcases mq i args.length with h1|h1
 .rw [mX h1]
  have hx:args[i]? = some args[i]:=gI h1
  obtain ⟨y,hy,dj⟩:=hv.get hx
  have h2:i < aL.size:=by omega
  have e1:(aL++Array.replicate (n - aL.size) undef).getD i undef=y:=by
   have h3:aL[i]? = some y:=by simpa using hy
   simp [Array.getElem?_append_left h2,h3]
  rw [e1,hx]
  exact dj
 .rw [px h1]
  have e1:(aL++Array.replicate (n - aL.size) undef).getD i undef=undef:=by
   have h3:aL.size<=i:=by omega
   simp only [Array.getD_eq_getD_getElem?,Array.getElem?_append_right h3]
   by_cases h4:i - aL.size < n - aL.size
   .simp [h4]
   .simp [h4]
  rw [e1]
  by_cases h4:i - args.length < n - args.length
  .simp [h4];exact .undef ρ
  .simp [h4];exact .undef ρ

theorem cA.set {ρ:cI} {e:Env} {tmps:Array ae} (he:cA ρ e tmps) {v u:ae} (hv:VR ρ v u) (d:Nat):cA ρ (Env.set e d v) (tmps.setIfInBounds d u):=by
 have:=cA.put (a:={ tmps:=tmps,defers:=[] }) he hv (some d)
 exact this

theorem cA.iI {ρ:cI}:∀ (ps:List Tmp) (args:List ae) (aL:List ae) (e:Env) (tmps:Array ae),cA ρ e tmps->cB ρ args aL->cA ρ (Am.iI e ps args) ((ps.zip aL).foldl (λtmps (t,a)=>tmps.setIfInBounds t a) tmps)
 | [],args,aL,e,tmps,he,_=>by cases args <;> exact he
 |t::ps,[],aL,e,tmps,he,hv=>by rw [hv.of_nil];exact he
 |t::ps,v::args,aL,e,tmps,he,hv=>by
  obtain ⟨u,m,rfl,h1,h2⟩:=hv.of_cons
  exact cA.iI ps args m _ _ (he.set h1 t) h2

theorem zik {ρ:cI} {h:Heap} {fn:Func} {tmps:Array ae} {R:Ending->World->Prop} {n0:Nat}:∀ (rs:List Nat) (w:World),rs.Nodup->(∀ r∈rs,n0<=r/\w.heap[r]? = some (.deferred (some []))/\∀ A L,ρ A=some L->L.b≠r)->bT ρ h w ->
 (∀ w',bT ρ h w'->w'.os=w.os->w'.tape=w.tape->w'.output=w.output->w'.heap.size=w.heap.size->(∀ b,(b < n0\/∃ A L,ρ A=some L/\L.b=b)->w'.heap[b]? = w.heap[b]?)->∃ v,(results fn tmps).run P w'=.ok v w'/\R (.returned v) w') ->
 LeavesInM Fence.wide 0 P fn tmps R (rs.map λr=>{ target:=.collected r,args:=#[] }) .returning w
 | [],w,_,_,hs,hR=>hR w hs rfl rfl rfl rfl (λ_ _=>rfl)
 |r::rs,w,i6,aC,hs,hR=>by
  obtain ⟨a1,a2,a3⟩:=aC r (by simp)
  have aP:r < w.heap.size:=(mY.1 a2).1
  refine ⟨by simp,.inl ⟨r,_,rfl,run_takeDeferred a2,?_⟩⟩
  obtain ⟨IK,NQ⟩:=AV.1 i6
  have dS:(w.putObj r (.deferred none)).heap.size=w.heap.size:=by rw [T7];simp
  refine zik (n0:=n0) rs _ NQ (λq hq=>?_) ⟨λA L hA=>(hs.fL A L hA).keep (λ_ _ h=>h) (by rw [dS];exact bo _) (λ_=>Ue (a3 A L hA)),hs.inj⟩ λw' mh h1 h2 h3 h4 h5=>?_
  .obtain ⟨b1,b2,b3⟩:=aC q (by simp [hq])
   exact ⟨b1,(Ue (λ(e:q=r)=>IK (e ▸ hq))).trans b2,b3⟩
  .refine hR w' mh h1 h2 h3 (h4.trans dS) λb hb=>(h5 b hb).trans (Ue λe=>?_)
   subst e
   rcases hb with hb|⟨A,L,hA,hb⟩
   .omega
   .exact a3 A L hA hb

inductive lD (m:Oper) (t:Tmp) (rest:Code):List Code->Code->Prop where
 |here (id:Nat) (ops:Array Oper) (d:Oper) (args:Array Operand) (iy:Array TypeId):ops.toList=[m,d]->d.op=.defer ⟨.value (.tmp t),args,iy⟩->args.isEmpty=true->m.guard=none->d.guard=none->d.dst=none->lD m t rest [] (.seq (.region id ops false) rest)
 |step (a b:Code) (pre:List Code):lD m t rest pre b->lD m t rest (a::pre) (.seq a b)
theorem zoL {d:Oper} {t:Tmp} (h:zrl d=some t):∃ args iy,d.op=.defer ⟨.value (.tmp t),args,iy⟩/\args.isEmpty=true/\d.guard=none/\d.dst=none:=by
 unfold zrl at h
 split at h
 .rename_i t' args iy aZ
  split at h
  .rename_i hc
   cases h
   simp only [dP,Option.isNone_iff_eq_none] at hc
   exact ⟨args,iy,aZ,hc.1.1,hc.1.2,hc.2⟩
  .cases h
 .cases h
theorem zsj:∀ (c:Code) (pre:List Code) (m:Oper) (t:Tmp) (rest:Code),C4 c=some (pre,m,t,rest)->lD m t rest pre c:=by
 intro c
 induction c with
 |seq a b _ jV =>
  intro pre m t rest h
  have cS:∀ (a:Code),((C4 b).map λ(pre,m,t,r)=>(a::pre,m,t,r))=some (pre,m,t,rest)->lD m t rest pre (.seq a b):=by
   intro a hm
   simp only [cC,Prod.exists,df] at hm
   obtain ⟨aag,m',t',r',hs,rfl,rfl,rfl,rfl⟩:=hm
   exact .step a b aag (jV _ _ _ _ hs)
  unfold C4 at h
  split at h
  .rename_i id ops b' heq
   cases heq
   split at h
   .rename_i m' d BZ
    split at h
    .rename_i t' hd
     split at h
     .rename_i hg
      simp only [dY,df] at h
      obtain ⟨rfl,rfl,rfl,rfl⟩:=h
      obtain ⟨args,iy,h1,h2,h3,h4⟩:=zoL hd
      exact .here id ops d args iy BZ h1 h2 (by simpa using hg) h3 h4
     .exact cS _ h
    .exact cS _ h
   .exact cS _ h
  .rename_i a' b' _ heq
   cases heq
   exact cS _ h
  .cases h
 |_=>intro pre m t rest h;simp [C4] at h

theorem zoK (hT:T.Fits P) {gs:List Nat} (hC:CS P gs C) (hg:uT C) 
 (hE:∀ (n0:Nat) (B:List Deferred) (c:Code) (e:Env) (h:Heap) (x:Ex) (e':Env) (h':Heap) (ρ:cI) (a:Act) (w:World) (Q:Exit->Act->World->Prop),E c e h=some (x,e',h')->cL ρ c->(true=true->nO c=true)->dt gs ρ->bT ρ h w->fO ρ h h'->cA ρ e a.tmps->Marks n0 B true ρ w a.defers->Im ρ none none->n0<=w.heap.size ->
  (∀ ρ' a' w',Fr ρ ρ' h h' w w'->bT ρ' h' w'->cA ρ' e' a'.tmps->Marks n0 B true ρ' w' a'.defers->Q x.to a' w')->c.wpIn (WR none) 0 P Q a w)
 (zT:∀ c e h x e' h',E c e h=some (x,e',h')->bA h h')
 {c:Code} {e:Env} {w:World} {tmps:Array ae} (BM:∀ g fg cg,T.fn g=some fg->fg.body=some cg->sP gs cg=true) (dU:cL ρ c) (hG:dt gs ρ) (hs:bT ρ h w) (hf:fO ρ h h') (he:cA ρ e tmps)
 (an:EF P T E C fn c e h=some (v,h')) :
 c.wpIn Fence.wide 0 P (bodyPostM Fence.wide 0 P fn λed w'=>∃ ρ' u,ed=.returned u/\Fr ρ ρ' h h' w w'/\bT ρ' h' w'/\VR ρ' v u) { tmps,defers:=[] } w:=by
 have key:∀ (pre:List Code) (m:Oper) (t:Tmp) (rest:Code) (c:Code),lD m t rest pre c->∀ (e:Env) (h1:Heap) (ρ1:cI) (w1:World) (a:Act),pre.all nO=true->nO rest=true->cL ρ1 c->dt gs ρ1->bT ρ1 h1 w1->fO ρ1 h1 h'->cA ρ1 e a.tmps->a.defers=[]->Fr ρ ρ1 h h1 w w1 ->
  ((zx E pre e h1).bind λ(e1,h1)=>(jc P T C e1 m h1).bind λ(v,h2) =>
    match E rest (put e1 m.dst v) h2 with
    |some (.ret,e3,h3)=>we T E fn ((put e1 m.dst v).get t) e3 h3
    |some (.normal,e3,h3)=>we T E fn ((put e1 m.dst v).get t) e3 h3
    |_=>none)=some (v,h') ->
  c.wpIn Fence.wide 0 P (bodyPostM Fence.wide 0 P fn λed w'=>∃ ρ' u,ed=.returned u/\Fr ρ ρ' h h' w w'/\bT ρ' h' w'/\VR ρ' v u) a w1:=by
  intro pre m t rest c cP
  induction cP with
  |step a0 b0 apx _ ih =>
   intro e h1 ρ1 w1 a nC gg dU hG hs hf he hd dC an
   simp only [gL,dP] at nC
   simp only [zx,cH,Prod.exists] at an
   obtain ⟨e2,h2,hp,an⟩:=an
   split at hp
   .rename_i e3 h3 hr
    have pU:bA h3 h':=by
     obtain ⟨v2,h4,ho,an⟩:=an
     have k1:=T4 zT _ _ _ _ _ hp
     have k2:=Hs hg ho
     split at an
     .rename_i j9;exact ((k1.trans k2).trans (zT _ _ _ _ _ _ j9)).trans (Ht zT an)
     .rename_i j9;exact ((k1.trans k2).trans (zT _ _ _ _ _ _ j9)).trans (Ht zT an)
     .cases an
    refine wpIn_seq ?_
    refine hE w1.heap.size [] a0 e h1 .normal e3 h3 ρ1 a w1 _ hr dU.1 (λ_=>nC.1) hG hs (hf.left pU.size) he (by rw [hd];exact Marks.nil) trivial (bo _) λρ2 a2 w2 f2 s2 r2 d2=>?_
    obtain ⟨rs,m1,_,m2,_⟩:=d2
    rw [m2 rfl] at m1
    refine ih e3 h3 ρ2 w2 a2 nC.2 gg (dU.2.mono f2.grow) (hG.mono f2.grow) s2 (hf.right f2) r2 (by simpa using m1) (dC.trans f2) ?_
    simp only [cH,Prod.exists]
    exact ⟨e2,h2,hp,an⟩
   .cases hp
  |here id ops d args iy BZ aZ eM Tx Tp Yl =>
   intro e h1 ρ1 w1 a _ gg dU hG hs hf he hd dC an
   simp only [zx,cH,Prod.exists,dY,df] at an
   obtain ⟨e1,bD,⟨rfl,rfl⟩,v1,h2,ho,an⟩:=an
   have gp:bA h2 h':=by
    split at an
    .rename_i j9;exact (zT _ _ _ _ _ _ j9).trans (Ht zT an)
    .rename_i j9;exact (zT _ _ _ _ _ _ j9).trans (Ht zT an)
    .cases an
   refine wpIn_seq (wpIn_region_list ?_)
   rw [BZ]
   have Y7:lE ρ1 m:=dU.1 m (by rw [BZ];simp)
   have TE:Region.wanted m (yielded ops a.tmps)=true:=by simp [Region.wanted,Tx]
   rw [wpListIn,aE TE]
   have yL:=Jb hT hC hG hs he Y7 (hf.left gp.size) ho
   refine yL.wp (rl:=none) (I7 ho) λρ2 u w2 f2 s2 v2=>?_
   have ny:cA ρ2 (put e m.dst v1) (a.put m.dst u).tmps:=(he.mono f2.grow).put v2 m.dst
   have js:(a.put m.dst u).defers=[]:=by cases m.dst <;> exact hd
   have hwd:Region.wanted d (yielded ops (a.put m.dst u).tmps)=true:=by simp [Region.wanted,Tp]
   rw [wpListIn,aE hwd]
   have Gr:=ny.2 t
   have Gw:∃ x e3 h3,(x=Ex.ret\/x=.normal)/\E rest (put e m.dst v1) h2=some (x,e3,h3)/\we T E fn ((put e m.dst v1).get t) e3 h3=some (v,h'):=by
    split at an
    .rename_i e3 h3 j9;exact ⟨_,e3,h3,.inl rfl,j9,an⟩
    .rename_i e3 h3 j9;exact ⟨_,e3,h3,.inr rfl,j9,an⟩
    .cases an
   obtain ⟨x,e3,h3,hx,j9,cO⟩:=Gw
   unfold we at cO
   split at cO
   .rename_i g fi ca tD
    rw [tD] at Gr
    generalize X9:(a.put m.dst u).tmps.getD t undef=ag at Gr
    cases Gr with
    |func _ q1 q2 q3 q4 =>
     rename_i Du Dr
     have qF:cB ρ2 fi.toList Du.toList:=⟨by simpa using q1,λi x y hx hy=>q3 i x y (by simpa using hx) (by simpa using hy)⟩
     have rF:cB ρ2 ca.toList Dr.toList:=⟨by simpa using q2,λi x y hx hy=>q4 i x y (by simpa using hx) (by simpa using hy)⟩
     simp only [cH] at cO
     obtain ⟨fg,Gh,cg,Tn,cO⟩:=cO
     split at cO
     .rename_i nB
      have hae:(a.put m.dst u).eval (.tmp t)=.func (.func g) Du Dr:=X9
      have i7:(execOp (a.put m.dst u).eval d).run P w2=.ok (.defer { target:=.fn (.func g) Dr,args:=Du }) w2:=by
       have F5:args=#[]:=by simpa using eM
       simp [execOp,aZ,resolve,hae,Deferred.ofValue,F5]
      refine ⟨λfq hq=>trivial,?_⟩
      rw [show Oper.semAt Fence.wide.round (a.put m.dst u).eval d=execOp (a.put m.dst u).eval d from rfl,i7]
      simp only [Oper.uponIn,wpListIn,Yl,js]
      have pU:bA h3 h':=Ht zT (show we T E fn (.func (.func g) fi ca) e3 h3=some (v,h') by unfold we;simp only [Gh,dX,Tn,nB,if_true];exact cO)
      refine hE w2.heap.size [{ target:=.fn (.func g) Dr,args:=Du }] rest _ _ _ _ _ ρ2 _ w2 _ j9 (dU.2.mono f2.grow) (λ_=>gg) (hG.mono f2.grow) s2 ((hf.right f2).left pU.size) ny Marks.nil trivial (bo _) λρ3 a3 w3 f3 s3 r3 d3=>?_
      obtain ⟨rs,m1,_,m2,_⟩:=d3
      rw [m2 rfl] at m1
      have m1':a3.defers=[{ target:=.fn (.func g) Dr,args:=Du }]:=by simpa using m1
      have hl:LeavesInM Fence.wide 0 P fn a3.tmps (λed w'=>∃ ρ' u,ed=.returned u/\Fr ρ ρ' h h' w w'/\bT ρ' h' w'/\VR ρ' v u) a3.defers .returning w3:=by
       rw [m1']
       obtain ⟨hPg,jw,_⟩:=hT.fn g fg Gh
       have fZ:¬ fg.name="runtime.NumGoroutine":=by simpa using jw
       refine ⟨by simp,.inr ⟨(λhh=>by cases hh),_,_,g,Du++Dr,rfl,?_,λ_ _=>trivial,?_⟩⟩
       .show (callFunc g (Du++Dr)).run P w3=_
        simp [callFunc,hPg,fZ,Tn]
       .have gw:cB ρ3 (fi.toList++ca.toList) (Du++Dr).toList:=by
         have:=(qF.append rF).mono f3.grow
         simpa using this
        have heg:=cA.enter gw fg.ntmps
        have Oa:∃ y e4 h4 vg,(y=Ex.ret\/y=.normal)/\E cg ((fi.toList++ca.toList)++List.replicate (fg.ntmps - (fi.toList++ca.toList).length) undef) h3=some (y,e4,h4)/\mV T fg e4 h4=some vg/\mV T fn e3 h4=some v/\h4=h':=by
         split at cO
         .rename_i e4 h4 yJ
          simp only [cH,cC,df] at cO
          obtain ⟨vg,Oj,v',Oh,rfl,rfl⟩:=cO
          exact ⟨_,e4,h4,vg,.inl rfl,yJ,Oj,Oh,rfl⟩
         .rename_i e4 h4 yJ
          simp only [cH,cC,df] at cO
          obtain ⟨vg,Oj,v',Oh,rfl,rfl⟩:=cO
          exact ⟨_,e4,h4,vg,.inr rfl,yJ,Oj,Oh,rfl⟩
         .cases cO
        obtain ⟨y,e4,h4,vg,hy,yJ,Oj,Cb,rfl⟩:=Oa
        refine (callsDIn_of_wp (R:=λed w'=>∃ u,ed=.returned u/\∃ vr,(results fn a3.tmps).run P w'=.ok vr w'/\∃ ρ' u',Ending.returned vr=.returned u'/\Fr ρ ρ' h h4 w w'/\bT ρ' h4 w'/\VR ρ' v u') hPg Tn trivial ?_).mono ?_
        .refine hE w3.heap.size [] cg _ _ _ _ _ ρ3 _ w3 _ yJ (.of (hG.mono (f2.trans f3).grow) (BM g fg cg Gh Tn)) (λ_=>nB) (hG.mono (f2.trans f3).grow) s3 ((hf.right f2).right f3) heg Marks.nil trivial (bo _) λρ4 a4 w4 f4 s4 r4 d4=>?_
         obtain ⟨rs4,n1,_,n2,_⟩:=d4
         rw [n2 rfl] at n1
         have n1':a4.defers=[]:=by simpa using n1
         obtain ⟨ug,hug,_⟩:=zet hT s4 r4 Oj
         obtain ⟨uf,huf,ZA⟩:=zet hT s4 (r3.mono f4.grow) Cb
         have hbp:a4.defers=[]/\∃ vv,(results fg a4.tmps).run P w4=.ok vv w4/\∃ u,Ending.returned vv=.returned u/\∃ vr,(results fn a3.tmps).run P w4=.ok vr w4/\∃ ρ' u',Ending.returned vr=.returned u'/\Fr ρ ρ' h h4 w w4/\bT ρ' h4 w4/\VR ρ' v u' :=
          ⟨n1',ug,hug,ug,rfl,uf,huf,ρ4,uf,rfl,((dC.trans f2).trans f3).trans f4,s4,ZA⟩
         rcases hy with rfl|rfl
         .exact hbp
         .exact hbp
        .rintro ed u' w' ⟨rfl,uu,rfl,vr,oJ,hR⟩
         exact ⟨vr,oJ,hR⟩
      rcases hx with rfl|rfl
      .exact hl
      .exact hl
     .cases cO
   .cases cO
 unfold EF at an
 simp only [cH,Prod.exists] at an
 obtain ⟨pre,m,t,rest,cP,an⟩:=an
 split at an
 .rename_i nB
  simp only [dP] at nB
  exact key pre m t rest c (zsj _ _ _ _ _ cP) e h ρ w _ nB.1 nB.2 dU hG hs hf he rfl (Fr.refl _ _ _) an
 .cases an

theorem zhB (lP:P.follows .mixedOrders=true) (hT:T.Fits P) (qE:Di P T.gs ov):∀ n,CS P T.gs (call P T ov n)
 |0=>by
  refine ⟨?_,?_⟩
  .intro f args h v h' an;simp [call] at an
  .intro f args h v h' an;simp [call] at an
 |n+1=>by
  have Ot:=zhB lP hT qE n
  have n9:=zll (T:=T) qE n
  have yh:=λ(rd rl:Option Nat) (n0:Nat)=>zgo hT Ot n9 (zgp lP hT Ot n9) (Ho n9) rd rl n0 [] false n
  have yq:=λ(rd:Option Nat)=>Hn (P:=P) (T:=T) n9 (Ho (P:=P) (T:=T) n9) rd n
  refine ⟨?_,?_⟩
  .intro f args h v h' an ρ w aL hG hs hf hv
   simp only [call] at an
   split at an
   .rename_i g hg
    exact (qE f g hg args h v h' an).2 ρ w aL hG hs hf hv
   .simp only [cH] at an
    obtain ⟨fn,vz,c,hc,an⟩:=an
    obtain ⟨hP,jw,dU⟩:=hT.fn f fn vz
    right
    refine ⟨?_,?_⟩
    .have fZ:¬ fn.name="runtime.NumGoroutine":=by simpa using jw
     simp [callFunc,hP,fZ,hc]
    .refine callsIn_wide.1 (callsIn_of_wp_marks (n:=0) hP hc trivial ?_)
     have he:=cA.enter hv fn.ntmps
     have go:∀ (x:Ex) (e:Env) (h2:Heap),x=.ret\/x=.normal->en P T (call P T ov n) (rO P T (call P T ov n)) none n c (args++List.replicate (fn.ntmps - args.length) undef) h=some (x,e,h2) ->
      (mV T fn e h2).map (λv=>(v,h2))=some (v,h')->c.wpIn Fence.wide 0 P (bodyPostM Fence.wide 0 P fn λed w'=>∃ ρ' u,ed=.returned u/\Fr ρ ρ' h h' w w'/\bT ρ' h' w'/\VR ρ' v u) { tmps:=aL++Array.replicate (fn.ntmps - aL.size) undef,defers:=[] } w:=by
      intro x e h2 hx hr i7
      simp only [cC,df] at i7
      obtain ⟨v',i7,rfl,rfl⟩:=i7
      refine yh none none w.heap.size c _ _ _ _ _ ρ _ w _ hr (.of hG (dU c hc)) (λq=>by cases q) hG hs hf he Marks.nil trivial (bo _) λρ' a' w' f1 s1 e1 d1=>?_
      obtain ⟨rs,m1,m2,_,m3⟩:=d1
      rw [bu] at m1
      have hl:LeavesInM Fence.wide 0 P fn a'.tmps (λed w'=>∃ ρ' u,ed=.returned u/\Fr ρ ρ' h h2 w w'/\bT ρ' h2 w'/\VR ρ' v' u) a'.defers .returning w':=by
       rw [m1]
       refine zik rs w' m2 m3 s1 λw2 s2 q1 q2 q3 q4 q5=>?_
       obtain ⟨u,hu,n8⟩:=zet hT s2 e1 i7
       refine ⟨u,hu,ρ',u,rfl,⟨f1.grow,f1.fresh,q1.trans f1.os,q2.trans f1.tape,q3.trans f1.output,by rw [q4];exact f1.size,f1.iN,f1.low,λb hb aC=>?_,f1.uk⟩,s2,n8⟩
       exact (q5 b (.inl hb)).trans (f1.keep b hb aC)
      rcases hx with rfl|rfl
      .exact hl
      .exact hl
     split at an
     .exact zoK hT Ot n9 (λn0 B c e h x e' h' ρ a w Q=>zgo hT Ot n9 (zgp lP hT Ot n9) (Ho n9) none none n0 B true n c e h x e' h' ρ a w Q) (λc e h x e' h' hr=>yq none c e h x e' h' hr) (λg fg cg h1 h2=>(hT.fn g fg h1).2.2 cg h2) (.of hG (dU c hc)) hG hs hf he an
     split at an
     .rename_i e h2 hr;exact go .ret e h2 (.inl rfl) hr an
     .rename_i e h2 hr;exact go .normal e h2 (.inr rfl) hr an
     .cases an
  .intro A args h v h' an ρ w aL L hA hG hs hf hv
   simp only [call] at an
   unfold EL at an
   split at an
   .rename_i env ps assign body st gh hg
    split at an
    .rename_i hlen
     split at an
     .rename_i e1 h1 wK
      split at an
      .rename_i tq Hc pA xu k5 DI
       obtain ⟨lo,l1,l2,l3,l4,l5,l6,l7,l8,l9,_⟩:=Ra hs hA hg
       have mS:args.length=aL.size:=by simpa using hv.1
       have oG:lo.params.size=ps.length:=by rw [<- l4];simp
       refine ⟨lo.fn,(lo.params.zip aL).foldl (λtmps (t,a)=>tmps.setIfInBounds t a) lo.tmps,lo.assign,lo.body,?_,?_⟩
       .simp only [Instr.yield,Sem.run_bind,run_getLoop l1,Result.andThen_ok]
        rw [az (by omega)]
        simp
       .have key:∀ (x:Ex) (e2:Env) (h2:Heap) (jump:Option Code),en P T (call P T ov n) (rO P T (call P T ov n)) (some A) n body e1 (h1.set A (.loop tq Hc pA xu .busy k5))=some (x,e2,h2) ->
         (jump=match x with | .normal=>none | .ret=>some .ret | .exit id=>some (.exit id))->CD A jump h2=some (v,h')->RoundIn Fence.wide 0 P L.b lo.fn ((lo.params.zip aL).foldl (λtmps (t,a)=>tmps.setIfInBounds t a) lo.tmps) lo.assign lo.body w λed w'=>∃ ρ' u,ed=.returned u/\Fr ρ ρ' h h' w w'/\bT ρ' h' w'/\VR ρ' v u:=by
         intro x e2 h2 jump j9 yo jO
         have k1:=yq (some A) _ _ _ _ _ _ wK
         have k2:=yq (some A) _ _ _ _ _ _ j9
         have k3:=TX jO
         have s1:=k2.size
         have s2:=k3.size
         rw [Heap.size_set] at s1
         refine roundIn_of_wpIn (F:=Fence.wide) trivial ?_
         have yi:cA ρ (iI env ps args) ((lo.params.zip aL).foldl (λtmps (t,a)=>tmps.setIfInBounds t a) lo.tmps):=by
          have:=cA.iI ps args aL.toList env lo.tmps l7 hv
          rw [<- Array.foldl_toList,Array.toList_zip,l4]
          exact this
         rw [l5]
         refine yh (some A) (some L.b) w.heap.size assign _ _ _ _ _ ρ _ w _ wK l8 (λq=>by cases q) hG hs (hf.left (by omega)) yi Marks.nil ⟨L,hA,rfl⟩ (bo _) λρ1 a1 w1 f1 sm1 en1 d1=>?_
         have me:=f1.grow A L hA
         obtain ⟨lo1,p1,p2,p3,p4,p5,p6,p7,p8,p9,p10⟩:=Ra sm1 me DI
         obtain ⟨f2,sm2⟩:=p10 .busy k5
         have YU:({ lo1 with state:=LoopState.busy,pending:=k5 }:Loop)={ lo1 with state:=LoopState.busy }:=by subst p3;rfl
         rw [YU] at f2 sm2
         refine ⟨_,run_beginRound p1 p2,?_⟩
         rw [l6]
         refine yh (some A) (some L.b) w.heap.size body _ _ _ _ _ ρ1 a1 _ _ j9 (l9.mono f1.grow) (λq=>by cases q) (hG.mono f1.grow) sm2 ?_ en1 (d1.step f2) ⟨L,me,rfl⟩ (il f1.size f2.size) λρ3 a3 w3 f3 sm3 en3 d3=>?_
         .have dC:fO ρ1 h1 h2:=((hf.left (by omega)).right f1)
          exact dC
         .have re:=f3.grow A L me
          unfold CD at jO
          split at jO
          .rename_i ME ps3 uo Dj kA agm hg3
           cases jO
           obtain ⟨G8,z1,z2,z3,z4,z5,z6,z7,z8,z9,z10⟩:=Ra sm3 re hg3
           obtain ⟨f4,sm4⟩:=z10 (if jump.isNone then .ready else .done) jump
           have lM:∃ ρ' u,Ending.returned (.bool jump.isNone)=.returned u/\Fr ρ ρ' h (h2.set A (.loop ME ps3 uo Dj (if jump.isNone then .ready else .done) jump)) w (w3.putObj L.b (.loop { G8 with state:=if jump.isNone then .ready else .done,pending:=jump })) /\
            bT ρ' (h2.set A (.loop ME ps3 uo Dj (if jump.isNone then .ready else .done) jump)) (w3.putObj L.b (.loop { G8 with state:=if jump.isNone then .ready else .done,pending:=jump }))/\VR ρ' (.bool jump.isNone) u :=
            ⟨ρ3,_,rfl,((f1.trans f2).trans f3).trans f4,sm4,.bool _⟩
           have eu:=run_endRound (P:=P) jump z1
           cases x with
           |normal=>subst yo;exact ⟨_,_,eu,lM⟩
           |ret=>subst yo;exact ⟨_,_,eu,lM⟩
           |exit id=>subst yo;exact ⟨_,_,eu,lM⟩
          .cases jO
        split at an
        .rename_i e2 h2 j9;exact key _ _ _ _ j9 rfl an
        .rename_i e2 h2 j9;exact key _ _ _ _ j9 rfl an
        .rename_i e2 h2 j9;exact key _ _ _ _ j9 rfl an
        .cases an
      .cases an
     .cases an
    .cases an
   .cases an

theorem Fr.below {ρ':cI} {w w':World} (f:Fr ρ ρ' h h' w w') (iY:∀ A L,ρ A=some L->A < h'.low):Below w.heap.size w w' :=
 ⟨f.os,f.tape,f.output,f.size,λk hk=>f.keep k hk λA L hA _=>.inl (iY A L hA)⟩

theorem zzw (lP:P.follows .mixedOrders=true) (hT:T.Fits P) (qE:Di P T.gs ov) {n:Nat} {f:FuncId} {b:Bool} (hf:ov f=none) (eu:call P T ov n (.func f) [] h=some (.bool b,h')) (w:World) (ρ:cI)
 (hG:dt T.gs ρ) (hs:bT ρ h w) (bR:∀ A,h.size<=A->ρ A=none) (iY:∀ A L,ρ A=some L->A < h'.low) :
 Calls P f #[] w λe w'=>e=.returned (.bool b)/\Below w.heap.size w w':=by
 have lL:=(zhB lP hT qE n).fn f [] h (.bool b) h' eu ρ w #[] hG hs (λA h1 _=>bR A h1) (.nil _)
 rcases lL with ⟨ρ',u,w',h1,_⟩|⟨_,h1⟩
 .exfalso
  cases n with
  |zero=>simp [call] at eu
  |succ n =>
   simp only [call,hf,cH] at eu
   obtain ⟨fn,vz,c,hc,_⟩:=eu
   obtain ⟨hP,jw,_⟩:=hT.fn f fn vz
   have fZ:¬ fn.name="runtime.NumGoroutine":=by simpa using jw
   simp [callFunc,hP,fZ,hc] at h1
 .refine h1.mono ?_
  rintro e w' ⟨ρ',u,rfl,f1,s1,hv⟩
  refine ⟨?_,f1.below iY⟩
  rw [hv.bQ rfl]
end
end Go.Am
