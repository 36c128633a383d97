/- A region that draws its order: the plain machine goes by the text; what it comes to does not hang on the order. No condition. -/
import Derived.Test.YtjildadoepadeaaGreatDoorG0
import Derived.Orders
import Derived.OrdersIn
set_option linter.unusedSimpArgs false
namespace Go.Am
open Go.RowKit

def NI (T:bm):List TypeId->Bool
 |t::_=>(match T.desc t with|some (.map _ _)=>false|_=>true)
 | []=>true
def mE (T:bm) (o:Oper):Bool :=
 match o.op with
 | .move _ | .assign _ | .pick _ _ _ | .build _ _ | .nilCheck _ | .binOp _ _ _ _ _ | .makeFunc _ _ _ | .slice _ _ _ _ _ | .fieldAddr _ _ _ | .field _ _ _ | .indexAddr _ _ _ | .extract _ _ | .unOp _ _ _ | .index _ _ _ | .makeInterface _ _ | .typeAssert _ _ _ _=>true
 | .convert s d _ => !kP T s && !kP T d
 | .call c=>match c.callee with
  | .builtin .len=>NI T c.argTypes.toList
  | .builtin .min | .builtin .max | .builtin .cap=>true
  |_=>false
 |_=>false

section
variable (P:Program) (T:bm) (C:Fn->List ai->Heap->Option (ai × Heap))

def gI (o:Oper) (e:Env) (h h':Heap):Nat :=
 if mE T o then 0 else if h.size<=h'.low then (match o.op with
  | .load _ a=>(match aX e a with
   | .pointer (some x)=>3+3*x.block
   |_=>1)
  | .buildSlice _ _ _=>4+3*h.size
  |_=>1)
 else (match o.op with
  | .store _ a _=>(match aX e a with
   | .pointer (some x)=>5+3*x.block
   |_=>2)
  |_=>2)
def mR (ops:Array Oper):List Oper->Env->Heap->Option (List Nat × Env × Heap)
 | [],e,h=>some ([],e,h)
 |o::r,e,h =>
  if jG ops o e then
   match fp P T C e o { h with low:=h.size } with
   |some (v,h')=>(mR ops r (put e o.dst v) { h' with low:=min h.low h'.low }).map λ(ks,x)=>(gI T o e h h'::ks,x)
   |none=>none
  else (mR ops r (put e o.dst undef) h).map λ(ks,x)=>(0::ks,x)

def Ib (acc:List Nat) (o:Oper):Nat:=o.after.toList.foldl (λs e=>if Region.binds .any e then s ||| 2 ^ e.on ||| acc.getD e.on 0 else s) 0
def jJ:List Oper->List Nat->List Nat
 | [],acc=>acc
 |o::r,acc=>jJ r (acc++[Ib acc o])
def ke (a b:Nat):Bool:=a == 0 || b == 0 || (a % 3 != 2 && b % 3 != 2) || (Nat.ble 5 b && b % 3 == 2 && Nat.ble 3 a && ((a % 3 == 0 && a+2 != b) || (a % 3 == 1 && Nat.ble (b+2) a)))
def AP (ops:Array Oper) (ks ms:List Nat) (j:Nat):Bool :=
 match ops[j]? with
 |some oj=>oj.after.toList.all (λe => !Region.binds .any e || decide (e.on < j)) &&
  (List.range j).all λi=>(ms.getD j 0).testBit i || (match ops[i]? with
   |some oi=>oi.apart ops oj && ke (ks.getD i 2) (ks.getD j 2)
   |none=>true)
 |none=>true
def zb (ops:Array Oper) (ks ms:List Nat):Bool:=(List.range ops.size).all (AP ops ks ms)

def mH (ops:Array Oper) (e:Env) (h:Heap):Option (Env × Heap) :=
 match mR P T C ops ops.toList e h with
 |some (ks,e',h')=>if zb ops ks (jJ ops.toList []) then some (e',h') else none
 |none=>none
end

section
variable {P:Program} {T:bm} {C:Fn->List ai->Heap->Option (ai × Heap)}

theorem zp7 {t:TypeId} {x:ai} {ts:List TypeId} (hb:NI T (t::ts)=true) (h h2:Heap):bE T t x h=bE T t x h2:=by
 simp only [NI] at hb
 unfold bE
 split at hb
 .cases hb
 .rename_i aV
  split
  all_goals first|rfl|(rename_i hd;exact (aV _ _ hd).elim)

theorem MJ {e:Env} {o:Oper} {h h':Heap} {v:ai} (hb:mE T o=true) (ab:fp P T C e o h=some (v,h')):h'=h/\∀ h2,fp P T C e o h2=some (v,h2):=by
 have bV:∀ {r:Option ai},(r.map λx=>(x,h))=some (v,h')->h'=h/\∀ h2:Heap,(r.map λx=>(x,h2))=some (v,h2):=by
  intro r hr
  simp only [bS,cd] at hr
  obtain ⟨_,rfl,rfl,rfl⟩:=hr
  exact ⟨rfl,λ_=>rfl⟩
 have cQ:eP P e o h=some (v,h')->h'=h/\∀ h2,eP P e o h2=some (v,h2):=by
  intro hp
  unfold eP at hp ⊢
  split at hp
  .rename_i h1
   split at hp
   .rename_i h2
    split at hp
    .rename_i h3
     cases hp
     exact ⟨rfl,λ_=>by simp [h1,h3]⟩
    .cases hp
   .cases hp
  .cases hp
 obtain ⟨dst,op,ty,pos,after,guard⟩:=o
 cases op <;> simp only [mE,fb] at hb <;> simp only [fp] at ab ⊢
 case move x=>cases ab;exact ⟨rfl,λ_=>rfl⟩
 case assign x=>cases ab;exact ⟨rfl,λ_=>rfl⟩
 case pick c a b =>
  split at ab
  .cases ab;exact ⟨rfl,λ_=>rfl⟩
  .cases ab
 case build=>exact bV ab
 case nilCheck x =>
  split at ab
  .cases ab;exact ⟨rfl,λ_=>rfl⟩
  .cases ab;exact ⟨rfl,λ_=>rfl⟩
  .cases ab;exact ⟨rfl,λ_=>rfl⟩
  .cases ab
 case makeInterface=>exact bV ab
 case typeAssert=>exact bV ab
 case binOp=>exact bV ab
 case makeFunc fn f c =>
  split at ab
  .cases ab;exact ⟨rfl,λ_=>rfl⟩
  .cases ab
 case slice=>exact bV ab
 case fieldAddr=>exact bV ab
 case field=>exact bV ab
 case indexAddr=>exact bV ab
 case extract t i =>
  split at ab
  .exact bV ab
  .cases ab
 case unOp=>exact cQ ab
 case convert s d x =>
  simp only [cY,zo] at hb
  rw [hb.1,hb.2] at ab ⊢
  exact cQ ab
 case index=>exact cQ ab
 case call c =>
  obtain ⟨callee,args,fc⟩:=c
  cases callee with
  |value f=>simp at hb
  |invoke r m=>simp at hb
  |builtin b =>
   cases b <;> simp at hb <;> simp only at ab ⊢
   case len =>
    split at ab
    .rename_i mu kL
     rw [mu] at hb
     obtain ⟨e1,e2⟩:=bV ab
     exact ⟨e1,λh2=>by rw [zp7 hb h2 h];exact e2 h2⟩
    .cases ab
   case min=>exact cQ ab
   case max=>exact cQ ab
   case cap =>
    split at ab
    .exact bV ab
    .cases ab

theorem YU {e e':Env} {o:Oper} (h:Heap) (he:∀ x∈o.op.operands.toList,aX e x=aX e' x):fp P T C e o h=fp P T C e' o h:=by
 have cQ:(∀ cs b,o.op≠.select cs b)->eP P e o h=eP P e' o h:=by
  intro LU
  unfold eP
  have h1:execOp (aX e) o=execOp (aX e') o:=execOp_congr o LU (λx hx=>he x (by simpa using hx))
  have h2:(o.op.operands.toList.all λx=>plain (aX e x))=(o.op.operands.toList.all λx=>plain (aX e' x)):=by
   rw [Bool.eq_iff_iff,fD,fD]
   exact ⟨λhh x hx=>by rw [<- he x hx];exact hh x hx,λhh x hx=>by rw [he x hx];exact hh x hx⟩
  rw [h1,h2]
 have kJ:∀ (xs:List Operand),(∀ x∈xs,x∈o.op.operands.toList)->xs.map (aX e)=xs.map (aX e'):=λxs hx=>zzi λx kL=>he x (hx x kL)
 unfold fp
 dsimp only
 split
 .rename_i x aG;rw [he x (by simp [aG,Op.operands])]
 .rename_i x aG;rw [he x (by simp [aG,Op.operands])]
 .rename_i c a b aG;rw [he c (by simp [aG,Op.operands]),he a (by simp [aG,Op.operands]),he b (by simp [aG,Op.operands])]
 .rfl
 .rename_i t x aG;rw [he x (by simp [aG,Op.operands])]
 .rename_i t ps aG
  rw [zzi (g:=λ(p:Nat × Operand)=>(p.1,aX e' p.2)) λp hp=>by rw [he p.2 (by simp [aG,Op.operands];exact ⟨p.1,by simpa using hp⟩)]]
 .rename_i t n ps aG
  rw [zzi (g:=λ(p:Nat × Operand)=>(p.1,aX e' p.2)) λp hp=>by rw [he p.2 (by simp [aG,Op.operands];exact ⟨p.1,by simpa using hp⟩)]]
 .rename_i t x aG;rw [he x (by simp [aG,Op.operands])]
 .rename_i t a x aG;rw [he a (by simp [aG,Op.operands]),he x (by simp [aG,Op.operands])]
 .rename_i x aG;rw [he x (by simp [aG,Op.operands])]
 .rename_i op t x y yt aG;rw [he x (by simp [aG,Op.operands]),he y (by simp [aG,Op.operands])]
 .rename_i fn f c aG
  have h1:=kJ f.toList (λx hx=>by simp [aG,Op.operands];left;simpa using hx)
  have h2:=kJ c.toList (λx hx=>by simp [aG,Op.operands];right;simpa using hx)
  have h3:f.map (aX e)=f.map (aX e'):=by apply Array.ext';simpa using h1
  have h4:c.map (aX e)=c.map (aX e'):=by apply Array.ext';simpa using h2
  rw [h3,h4]
 .rename_i t l c aG;rw [he l (by simp [aG,Op.operands]),he c (by simp [aG,Op.operands])]
 .rename_i t x l hi m aG
  have yc:∀ (y:Option Operand),(∀ z,y=some z->z∈o.op.operands.toList)->y.map (aX e)=y.map (aX e'):=by
   intro y hy
   cases y with
   |none=>rfl
   |some z=>simp [he z (hy z rfl)]
  rw [he x (by simp [aG,Op.operands]),yc l (λz hz=>by subst hz;simp [aG,Op.operands]),yc hi (λz hz=>by subst hz;simp [aG,Op.operands]),yc m (λz hz=>by subst hz;simp [aG,Op.operands])]
 .rename_i s x f aG;rw [he x (by simp [aG,Op.operands])]
 .rename_i t x f aG;rw [he x (by simp [aG,Op.operands])]
 .rename_i t x i aG;rw [he x (by simp [aG,Op.operands]),he i (by simp [aG,Op.operands])]
 .rename_i t i aG;rw [he t (by simp [aG,Op.operands])]
 .rename_i aG;exact cQ (by simp [aG])
 .rename_i s d x aG;rw [he x (by simp [aG,Op.operands]),cQ (by simp [aG])]
 .rename_i aG;exact cQ (by simp [aG])
 .rename_i c aG
  obtain ⟨callee,args,fc⟩:=c
  dsimp only
  have ha:=kJ args.toList (λx hx=>by simp [aG,Op.operands,Call.operands];right;simpa using hx)
  have cS:∀ x∈args.toList,aX e x=aX e' x:=λx hx=>he x (by simp [aG,Op.operands,Call.operands];right;simpa using hx)
  split
  .split
   .rename_i h1 h2;rw [cS _ (by rw [h2];simp),cS _ (by rw [h2];simp)]
   .rfl
  .split
   .rename_i h1 h2;rw [cS _ (by rw [h2];simp),cS _ (by rw [h2];simp)]
   .rfl
  .split
   .rename_i h1 h2;rw [cS _ (by rw [h2];simp)]
   .rfl
  .split
   .rename_i h1 h2;rw [cS _ (by rw [h2];simp)]
   .rfl
  .exact cQ (by simp [aG])
  .exact cQ (by simp [aG])
  .split
   .rename_i h1 h2;rw [cS _ (by rw [h2];simp),cS _ (by rw [h2];simp)]
   .rfl
  .split
   .rename_i h1 h2;rw [cS _ (by rw [h2];simp)]
   .rfl
  .rename_i rv name
   rw [he rv (by simp [aG,Op.operands,Call.operands]),ha]
  .rename_i f
   rw [he f (by simp [aG,Op.operands,Call.operands]),ha]
  .rfl
 .rename_i t r aG
  cases r with
  |none=>rfl
  |some x=>simp only;rw [he x (by simp [aG,Op.operands])]
 .rename_i t x k ok aG;rw [he x (by simp [aG,Op.operands]),he k (by simp [aG,Op.operands])]
 .rename_i t m k x aG;rw [he m (by simp [aG,Op.operands]),he k (by simp [aG,Op.operands]),he x (by simp [aG,Op.operands])]
 .rename_i t m k x aG;rw [he m (by simp [aG,Op.operands]),he k (by simp [aG,Op.operands]),he x (by simp [aG,Op.operands])]
 .rename_i t m k aG;rw [he m (by simp [aG,Op.operands]),he k (by simp [aG,Op.operands])]
 .rename_i t m k x aG;rw [he m (by simp [aG,Op.operands]),he k (by simp [aG,Op.operands]),he x (by simp [aG,Op.operands])]
 .rename_i t x aG;rw [he x (by simp [aG,Op.operands])]
 .rename_i x xt t ok aG;rw [he x (by simp [aG,Op.operands])]
 .rfl
end
end Go.Am
namespace Go.Am
open Go.RowKit

section
variable {P:Program} {T:bm} {C:Fn->List ai->Heap->Option (ai × Heap)}

def dJ (P:Program) (T:bm) (C:Fn->List ai->Heap->Option (ai × Heap)) (ops:Array Oper) (o:Oper) (e e1:Env) (h h1:Heap) (v:ai) (k:Nat):Prop :=
 (jG ops o e=true/\∃ h2,fp P T C e o { h with low:=h.size }=some (v,h2)/\h1={ h2 with low:=min h.low h2.low }/\e1=put e o.dst v/\k=gI T o e h h2) \/
 (jG ops o e=false/\v=undef/\h1=h/\e1=put e o.dst undef/\k=0)

theorem Ud {ops:Array Oper}:∀ (l:List Oper) (e e':Env) (h h':Heap) (ks:List Nat),mR P T C ops l e h=some (ks,e',h') ->
 ∃ (E:Nat->Env) (H:Nat->Heap) (V:Nat->ai),E 0=e/\H 0=h/\E l.length=e'/\H l.length=h'/\ks.length=l.length /\
   ∀ i o,l[i]? = some o->dJ P T C ops o (E i) (E (i+1)) (H i) (H (i+1)) (V i) (ks.getD i 2)
 | [],e,e',h,h',ks,ab=>by
  simp only [mR,de,cd] at ab
  obtain ⟨rfl,rfl,rfl⟩:=ab
  exact ⟨λ_=>e,λ_=>h,λ_=>undef,rfl,rfl,rfl,rfl,rfl,λi o hi=>by simp at hi⟩
 |o::l,e,e',h,h',ks,ab=>by
  have glue:∀ (e1:Env) (h1:Heap) (v:ai) (k:Nat) (df:List Nat),mR P T C ops l e1 h1=some (df,e',h')->dJ P T C ops o e e1 h h1 v k->ks=k::df ->
   ∃ (E:Nat->Env) (H:Nat->Heap) (V:Nat->ai),E 0=e/\H 0=h/\E (o::l).length=e'/\H (o::l).length=h'/\ks.length=(o::l).length /\
     ∀ i o',(o::l)[i]? = some o'->dJ P T C ops o' (E i) (E (i+1)) (H i) (H (i+1)) (V i) (ks.getD i 2):=by
   intro e1 h1 v k df hr dI hk
   obtain ⟨E,H,V,b8,fU,qF,Vh,Vi,Vj⟩:=Ud l e1 e' h1 h' df hr
   subst hk
   refine ⟨λn=>match n with|0=>e|n+1=>E n,λn=>match n with|0=>h|n+1=>H n,λn=>match n with|0=>v|n+1=>V n,rfl,rfl,qF,Vh,by simp [Vi],?_⟩
   intro i o' hi
   cases i with
   |zero =>
    simp only [zza,de] at hi
    subst hi
    simp only [b8,fU,List.getD_cons_zero]
    exact dI
   |succ i =>
    have:=Vj i o' (by simpa using hi)
    simpa using this
  simp only [mR] at ab
  split at ab
  .rename_i hw
   split at ab
   .rename_i v h2 hr
    simp only [bS,Prod.exists,cd] at ab
    obtain ⟨df,x1,x2,bz,hk,rfl,rfl⟩:=ab
    exact glue _ _ v _ df bz (.inl ⟨hw,h2,hr,rfl,rfl,rfl⟩) hk.symm
   .cases ab
  .rename_i hw
   simp only [bS,Prod.exists,cd] at ab
   obtain ⟨df,x1,x2,bz,hk,rfl,rfl⟩:=ab
   exact glue _ _ undef _ df bz (.inr ⟨by simpa using hw,rfl,rfl,rfl,rfl⟩) hk.symm

theorem MY:∀ (l:List Oper) (acc:List Nat) (k:Nat),k < acc.length->(jJ l acc).getD k 0=acc.getD k 0
 | [],acc,k,_=>rfl
 |o::l,acc,k,hk=>by
  rw [jJ,MY l _ k (by simp;omega)]
  simp [kR hk]
theorem NK:∀ (l:List Oper) (acc:List Nat) (t:Nat) (o:Oper),l[t]? = some o->∃ m7:List Nat,m7.length=acc.length+t/\(jJ l acc).getD (acc.length+t) 0=Ib m7 o/\∀ k,k < acc.length+t->m7.getD k 0=(jJ l acc).getD k 0
 | [],acc,t,o,h=>by simp at h
 |o'::l,acc,0,o,h=>by
  simp only [zza,de] at h
  subst h
  refine ⟨acc,rfl,?_,λk hk=>?_⟩
  .rw [jJ,iN,MY l _ acc.length (by simp)]
   simp
  .rw [jJ,MY l _ k (by simp;omega)]
   simp [kR (show k < acc.length by omega)]
 |o'::l,acc,t+1,o,h=>by
  obtain ⟨m7,h1,h2,h3⟩:=NK l (acc++[Ib acc o']) t o (by simpa using h)
  simp only [hJ,zm] at h1 h2 h3
  rw [show acc.length+(t+1)=acc.length+1+t by omega]
  exact ⟨m7,h1,h2,h3⟩

theorem R5 {acc:List Nat} {o:Oper} {i:Nat} (h:(Ib acc o).testBit i=true):∃ e∈o.after.toList,Region.binds .any e=true/\(i=e.on\/(acc.getD e.on 0).testBit i=true):=by
 have key:∀ (l:List Edge) (s:Nat),(l.foldl (λs e=>if Region.binds .any e then s ||| 2 ^ e.on ||| acc.getD e.on 0 else s) s).testBit i=true ->
  s.testBit i=true\/∃ e∈l,Region.binds .any e=true/\(i=e.on\/(acc.getD e.on 0).testBit i=true):=by
  intro l
  induction l with
  |nil=>intro s hs;exact .inl hs
  |cons e l ih =>
   intro s hs
   rw [pL] at hs
   rcases ih _ hs with h1|⟨e',h1,h2,h3⟩
   .split at h1
    .rename_i hb
     rw [Nat.testBit_or,Nat.testBit_or,nY,nY] at h1
     rcases h1 with (h1|h1)|h1
     .exact .inl h1
     .rw [Nat.testBit_two_pow] at h1
      exact .inr ⟨e,by simp,hb,.inl (of_decide_eq_true h1).symm⟩
     .exact .inr ⟨e,by simp,hb,.inr h1⟩
    .exact .inl h1
   .exact .inr ⟨e',by simp [h1],h2,h3⟩
 rcases key _ 0 h with h1|h1
 .simp at h1
 .exact h1

theorem Th {ops:Array Oper} {S:Nat->Prop} (kD:∀ (j:Nat) (o:Oper),ops[j]? = some o->∀ e∈o.after.toList,Region.binds .any e=true->e.on < j)
 (jm:∀ (j:Nat) (o:Oper),ops[j]? = some o->S j->∀ e∈o.after.toList,Region.binds .any e=true->S e.on) :
 ∀ (n j:Nat) (o:Oper) (i:Nat),j<=n->ops[j]? = some o->(∀ e∈o.after.toList,Region.binds .any e=true->S e.on)->((jJ ops.toList []).getD j 0).testBit i=true->S i:=by
 intro n
 induction n with
 |zero =>
  intro j o i hj ho hd hb
  obtain ⟨m7,h1,h2,h3⟩:=NK ops.toList [] j o (by simpa using ho)
  simp only [jb,jX] at h1 h2 h3
  rw [h2] at hb
  obtain ⟨e,he,zP,_⟩:=R5 hb
  have:=kD j o ho e he zP
  omega
 |succ n ih =>
  intro j o i hj ho hd hb
  obtain ⟨m7,h1,h2,h3⟩:=NK ops.toList [] j o (by simpa using ho)
  simp only [jb,jX] at h1 h2 h3
  rw [h2] at hb
  obtain ⟨e,he,zP,hi⟩:=R5 hb
  have aS:=kD j o ho e he zP
  have hS:=hd e he zP
  rcases hi with rfl|hi
  .exact hS
  .rw [h3 e.on aS] at hi
   have zW:j < ops.size:=(jL.1 ho).1
   have Ql:ops[e.on]? = some (ops[e.on]'(by omega)):=AM _
   exact ih e.on _ i (by omega) Ql (jm e.on _ Ql hS) hi

def eS (e0:Env) (dst:Nat->Option Tmp) (V:Nat->ai) (S:Nat->Bool):Nat->Env
 |0=>e0
 |k+1=>if S k then put (eS e0 dst V S k) (dst k) (V k) else eS e0 dst V S k

theorem GB {e0:Env} {dst:Nat->Option Tmp} {V:Nat->ai} {S:Nat->Bool} {k:Nat} (h:S k=true):eS e0 dst V S (k+1)=put (eS e0 dst V S k) (dst k) (V k):=by simp only [eS,h,if_true]
theorem AY {e0:Env} {dst:Nat->Option Tmp} {V:Nat->ai} {S:Nat->Bool} {k:Nat} (h:S k=false):eS e0 dst V S (k+1)=eS e0 dst V S k:=by simp only [eS,h,fb,if_false]
theorem HS (e:Env) (d:Option Tmp) (v:ai):(put e d v).length=e.length:=by cases d <;> simp [put,Env.length_set]
theorem yV (e0:Env) (dst:Nat->Option Tmp) (V:Nat->ai) (S:Nat->Bool):∀ k,(eS e0 dst V S k).length=e0.length
 |0=>rfl
 |k+1=>by
  simp only [eS]
  split
  .rw [HS,yV e0 dst V S k]
  .exact yV e0 dst V S k
theorem Al {e:Env} {d:Option Tmp} {v:ai} {t:Nat} (h:d≠some t):(put e d v).get t=e.get t:=by
 cases d with
 |none=>rfl
 |some d=>simp only [put,Env.aL];rw [ay (λhh=>h (by rw [hh.1]))]
theorem MM {e e':Env} (hl:e.length=e'.length) {d:Option Tmp} {v:ai} {t:Nat} (h:e.get t=e'.get t):(put e d v).get t=(put e' d v).get t:=by
 cases d with
 |none=>exact h
 |some d=>simp only [put,Env.aL,hl,h]

end
end Go.Am
namespace Go.Am
open Go.RowKit
variable {k:Nat} {v:ai} {h h' h1:Heap} {e e1:Env} {o:Oper} {ops:Array Oper} {t:TypeId}

theorem Tq {p p':Nat->Bool}:∀ (l:List Nat),(∀ k∈l,p' k=true->p k=true)->(∃ x∈l,p x=true/\p' x=false)->l.countP p' < l.countP p
 | [],_,h=>by obtain ⟨x,hx,_⟩:=h;simp at hx
 |a::l,hle,h=>by
  have Qj:l.countP p'<=l.countP p:=List.countP_mono_left λk hk=>hle k (by simp [hk])
  obtain ⟨x,hx,hp,DO⟩:=h
  rw [List.countP_cons,List.countP_cons]
  rcases i0.1 hx with rfl|hx
  .simp only [hp,DO,if_true,fb,if_false]
   omega
  .have ih:=Tq l (λk hk=>hle k (by simp [hk])) ⟨x,hx,hp,DO⟩
   by_cases ha:p' a=true
   .rw [aC ha,aC (hle a (by simp) ha)];omega
   .rw [ay ha];split <;> omega

section
variable {P:Program} {T:bm} {C:Fn->List ai->Heap->Option (ai × Heap)}

theorem Heap.i5 (h:Heap) (x A:Nat):Heap.get { h with low:=x } A=h.get A:=rfl

theorem dJ.keeps (hg:oG C) (hs:dJ P T C ops o e e1 h h1 v k):aT h h1:=by
 rcases hs with ⟨_,h2,ab,rfl,_,_⟩|⟨_,_,rfl,_,_⟩
 .have hk:=yP hg ab
  exact ⟨hk.size,sx _ _,λA h3 h4=>hk.get A h3 (eR h4 (Be _ _))⟩
 .exact .refl _
theorem Sp (hb:mE T o=true):gI T o e h h'=0:=by unfold gI;rw [aC hb]
theorem M9 (hb:¬ mE T o=true) (hl:h.size<=h'.low):gI T o e h h' % 3≠2/\gI T o e h h'≠0 /\
 (gI T o e h h'=1\/(∃ t a x,o.op=.load t a/\aX e a=.pointer (some x)/\gI T o e h h'=3+3*x.block)\/((∃ t n ps,o.op=.buildSlice t n ps)/\gI T o e h h'=4+3*h.size)):=by
 unfold gI
 rw [ay hb,aC hl]
 split
 .rename_i t a aG
  split
  .rename_i x hx
   exact ⟨by omega,by omega,.inr (.inl ⟨t,a,x,aG,hx,rfl⟩)⟩
  .exact ⟨by omega,by omega,.inl rfl⟩
 .rename_i t n ps aG
  exact ⟨by omega,by omega,.inr (.inr ⟨⟨t,n,ps,aG⟩,rfl⟩)⟩
 .exact ⟨by omega,by omega,.inl rfl⟩
theorem HP (hb:¬ mE T o=true) (hl:¬ h.size<=h'.low):gI T o e h h' % 3=2 /\
 (gI T o e h h'=2\/∃ t a y x,o.op=.store t a y/\aX e a=.pointer (some x)/\gI T o e h h'=5+3*x.block):=by
 unfold gI
 rw [ay hb,ay hl]
 split
 .rename_i t a y aG
  split
  .rename_i x hx
   exact ⟨by omega,.inr ⟨t,a,y,x,aG,hx,rfl⟩⟩
  .exact ⟨rfl,.inl rfl⟩
 .exact ⟨rfl,.inl rfl⟩
theorem Ic {a b:Nat} (ha:a % 3=2) (hk:ke a b=true):b=0:=by
 unfold ke at hk
 simp only [nY,cY,beq_iff_eq,bne_iff_ne] at hk
 omega
theorem zse {a b:Nat} (hb:b % 3=2) (hk:ke a b=true):a=0\/(5<=b/\((a % 3=0/\3<=a/\a+2≠b)\/(a % 3=1/\3<=a/\b+2<=a))):=by
 unfold ke at hk
 simp only [nY,cY,beq_iff_eq,bne_iff_ne,Nat.ble_eq] at hk
 omega
theorem dJ.same (hg:oG C) (hs:dJ P T C ops o e e1 h h1 v k) (gz:k % 3≠2):∀ A,A < h.size->h1.get A=h.get A:=by
 rcases hs with ⟨_,h2,ab,rfl,_,hk⟩|⟨_,_,rfl,_,_⟩
 .intro A hA
  by_cases hb:mE T o=true
  .rw [Heap.i5,(MJ hb ab).1];rfl
  .by_cases hl:h.size<=h2.low
   .exact (yP hg ab).get A hA (by omega)
   .exact (gz (by rw [hk];exact (HP hb hl).1)).elim
 .intro A _;rfl
theorem dJ.still (hs:dJ P T C ops o e e1 h h1 v k) (oW:k=0):h1.size=h.size/\∀ A,h1.get A=h.get A:=by
 rcases hs with ⟨_,h2,ab,rfl,_,hk⟩|⟨_,_,rfl,_,_⟩
 .by_cases hb:mE T o=true
  .obtain ⟨rfl,_⟩:=MJ hb ab
   exact ⟨rfl,λ_=>rfl⟩
  .exfalso
   by_cases hl:h.size<=h2.low
   .exact (M9 hb hl).2.1 (by rw [<- hk,oW])
   .have:=(HP (e:=e) hb hl).1
    omega
 .exact ⟨rfl,λ_=>rfl⟩
theorem dJ.other (hs:dJ P T C ops o e e1 h h1 v k) (gz:k % 3=2) (hk5:5<=k):∀ A,5+3*A≠k->h1.get A=h.get A:=by
 rcases hs with ⟨_,h2,ab,rfl,_,hk⟩|⟨_,_,rfl,_,_⟩
 .intro A hA
  by_cases hb:mE T o=true
  .rw [Sp hb] at hk;omega
  .by_cases hl:h.size<=h2.low
   .have:=(M9 (e:=e) hb hl).1
    omega
   .rcases (HP (e:=e) hb hl).2 with h3|⟨t,a,y,x,aG,hx,h3⟩
    .omega
    .have aV:A≠x.block:=λe'=>by subst e';omega
     unfold fp at ab
     simp only [aG,hx,bS,cd] at ab
     obtain ⟨h4,hr,_,rfl⟩:=ab
     rw [Heap.i5]
     obtain ⟨B,off,sp⟩:=x
     unfold gm at hr
     split at hr
     .rename_i B' o' heq
      cases heq
      simp only [bB] at hr
      obtain ⟨n,_,hr⟩:=hr
      split at hr
      .unfold nQ at hr
       split at hr
       .rename_i cs e' hg
        split at hr
        .cases hr
         rw [Heap.aL _ _ _ _ (Heap.aW hg),ay aV]
         rfl
        .cases hr
       .cases hr
      .cases hr
     .cases hr
 .intro A _;rfl

theorem bj.swap {ρ:bU} {w:World} (hs:bj ρ h w) (dr:∀ A L,ρ A=some L->h1.get A=h.get A\/h1.get A=none):bj ρ h1 w:=by
 refine ⟨λA L hA=>?_,λA A' L L' hA da aV hb=>?_⟩
 .rcases dr A L hA with h2|h2
  .rw [h2];exact hs.im A L hA
  .rw [h2];exact hs.lt hA
 .have cO:∀ B M,ρ B=some M->¬ live h B->¬ live h1 B:=by
   rintro B M hB hn ⟨b,h3,h4⟩
   rcases dr B M hB with h2|h2
   .exact hn ⟨b,by rw [<- h2];exact h3,h4⟩
   .rw [h2] at h3;cases h3
  rcases hs.inj A A' L L' hA da aV hb with h2|h2|⟨⟨c1,e1,h2⟩,⟨c2,e2,h3⟩⟩
  .exact .inl (cO _ _ hA h2)
  .exact .inr (.inl (cO _ _ da h2))
  .rcases dr A L hA with h4|h4
   .rcases dr A' L' da with h5|h5
    .exact .inr (.inr ⟨⟨c1,e1,by rw [h4];exact h2⟩,⟨c2,e2,by rw [h5];exact h3⟩⟩)
    .exact .inr (.inl (by rintro ⟨b,h6,_⟩;rw [h5] at h6;cases h6))
   .exact .inl (by rintro ⟨b,h6,_⟩;rw [h4] at h6;cases h6)

theorem Fr.step {ρ0 ρ ρ':bU} {h0 hf hi hj:Heap} {w0 w w':World} (f:Fr ρ0 ρ h0 hf w0 w) (g:Fr ρ ρ' hi hj w w') (h1:hf.low<=hj.low) (h2:hj.size<=hf.size) (h3:h0.size<=hi.size):Fr ρ0 ρ' h0 hf w0 w':=by
 refine ⟨λA L hA=>g.grow A L (f.grow A L hA),?_,g.os.trans f.os,g.tape.trans f.tape,g.output.trans f.output,iG f.size g.size,f.eY,f.low,?_,f.n6⟩
 .intro A L hA hn
  cases hρ:ρ A with
  |some L1 =>
   have e:L1=L:=by have:=g.grow A L1 hρ;rw [hA] at this;exact (Option.some.inj this).symm
   subst e
   exact f.fresh A L1 hρ hn
  |none =>
   obtain ⟨k1,k2,k3⟩:=g.fresh A L hA hρ
   refine ⟨by omega,by omega,?_⟩
   rcases k3 with k3|⟨A0,L0,h5,he,hl,tO⟩
   .exact .inl (iG f.size k3)
   .cases yu:ρ0 A0 with
    |some L1 =>
     have e:L1=L0:=by have:=f.grow A0 L1 yu;rw [h5] at this;exact (Option.some.inj this).symm
     subst e
     exact .inr ⟨A0,L1,yu,he,by omega,by omega⟩
    |none =>
     rcases (f.fresh A0 L0 h5 yu).2.2 with h6|⟨A1,L1,h6,VJ,rm,Ls⟩
     .exact .inl (by omega)
     .exact .inr ⟨A1,L1,h6,VJ.trans he,rm,Ls⟩
 .intro b hb aq
  rw [g.keep b (eR hb f.size) ?_,f.keep b hb aq]
  intro A L hA hL
  cases hρ:ρ0 A with
  |some L0 =>
   have e:L0=L:=by have:=f.grow A L0 hρ;rw [hA] at this;exact (Option.some.inj this).symm
   subst e
   have:=aq A L0 hρ hL
   omega
  |none =>
   rcases (f.fresh A L hA hρ).2.2 with k1|⟨A0,L0,h5,he,hl,tO⟩
   .omega
   .have:=aq A0 L0 h5 (he.trans hL)
    omega

theorem ZK {x:Addr} {hh:Heap} (hg:hh.get x.block=h.get x.block):eQ T t (.pointer (some x)) hh=eQ T t (.pointer (some x)) h:=by
 obtain ⟨B,o,s⟩:=x
 cases s <;> simp only [eQ,ia,hg]
theorem ztY {x:Addr} (hl:eQ T t (.pointer (some x)) h=some v):x.block < h.size:=by
 rcases kT x.block h.size with h1|h1
 .exact h1
 .exfalso
  have hn:h.get x.block=none:=by unfold Heap.get;rw [ay (by omega)]
  obtain ⟨B,o,s⟩:=x
  simp only at hn
  cases s with
  |some q=>cases hl
  |none =>
   simp only [eQ,ia,hn,bB] at hl
   obtain ⟨g,_,hl⟩:=hl
   cases g <;> simp at hl
theorem Xx {n:Nat} {ps:List (Nat × ai)} {h2:Heap} (hb:rX T t n ps h=some (v,h2)) (hs:h1.size=h.size):∃ b,h2=h.push b/\rX T t n ps h1=some (v,h1.push b):=by
 unfold rX at hb ⊢
 split at hb
 .rename_i e hd
  simp only [bB,Prod.exists] at hb
  obtain ⟨k,pO,z,hi,hb⟩:=hb
  split at hb
  .cases hb
  .rename_i hc
   simp only [bS,cd] at hb
   obtain ⟨cs,nt,rfl,rfl⟩:=hb
   refine ⟨_,rfl,?_⟩
   simp only [hi,cM]
   rw [ay hc,nt,hs]
   rfl
 .cases hb
theorem ZM {t:Nat} (h:Operand.tmp t∈o.op.operands.toList):t∈o.looksAt ops:=by
 unfold Oper.looksAt
 rw [pM]
 left
 rw [List.mem_filterMap]
 exact ⟨_,h,rfl⟩

set_option maxHeartbeats 1000000 in
theorem RI (ix:P.follows .mixedOrders=true) (hT:T.Fits P) {gs:List Nat} (hC:CS P gs C) (hg:oG C):DS P gs (mH P T C):=by
 intro rl id ops e0 e' h0 h' ρ0 a0 w0 Q ab cE Vn Wt K8 K3 hQ
 unfold mH at ab
 split at ab
 case h_2=>cases ab
 rename_i ks ee hh cW
 split at ab
 case isFalse=>cases ab
 rename_i vk
 cases ab
 obtain ⟨E,H,V,lI,xn,PU,tC,Lp,WD⟩:=Ud ops.toList e0 e' h0 h' ks cW
 rw [nT] at PU tC
 have mr:∀ i o,ops[i]? = some o->dJ P T C ops o (E i) (E (i+1)) (H i) (H (i+1)) (V i) (ks.getD i 2):=λi o ho=>WD i o (by simpa using ho)
 have en:∀ i,i < ops.size->∃ o,ops[i]? = some o:=λi hi=>⟨_,AM hi⟩
 have cn:∀ i j,i<=j->j<=ops.size->aT (H i) (H j):=by
  intro i j gj
  induction gj with
  |refl=>intro _;exact .refl _
  |step gj ih =>
   rename_i k
   intro hj
   obtain ⟨o,ho⟩:=en k (by omega)
   exact (ih (by omega)).trans ((mr k o ho).keeps hg)
 have eX:∀ i j,i<=j->j<=ops.size->(∀ k,i<=k->k < j->ks.getD k 2 % 3≠2)->∀ A,A < (H i).size->(H j).get A=(H i).get A:=by
  intro i j gj
  induction gj with
  |refl=>intro _ _ A _;rfl
  |step gj ih =>
   rename_i k
   intro hj hk A hA
   obtain ⟨o,ho⟩:=en k (by omega)
   have h1:=(mr k o ho).same hg (hk k (by omega) (su _)) A (eR hA (cn i k (by omega) (by omega)).size)
   exact h1.trans (ih (by omega) (λq h2 h3=>hk q h2 (by omega)) A hA)
 have qQ:∀ j,j < ops.size->AP ops ks (jJ ops.toList []) j=true:=λj hj=>fD.1 vk j (mZ.2 hj)
 have kD:∀ (j:Nat) (o:Oper),ops[j]? = some o->∀ e∈o.after.toList,Region.binds .any e=true->e.on < j:=by
  intro j o ho e he hb
  have:=qQ j (jL.1 ho).1
  simp only [AP,ho,cY,fD] at this
  have h2:=this.1 e he
  simpa [hb] using h2
 have vx:∀ (i j:Nat) (oi oj:Oper),i < j->ops[i]? = some oi->ops[j]? = some oj->((jJ ops.toList []).getD j 0).testBit i=true\/(oi.apart ops oj=true/\ke (ks.getD i 2) (ks.getD j 2)=true):=by
  intro i j oi oj gj tR mj
  have:=qQ j (jL.1 mj).1
  simp only [AP,mj,cY,fD] at this
  have h2:=this.2 i (mZ.2 gj)
  simpa [tR] using h2
 clear vk qQ
 let dst:Nat->Option Tmp:=λk=>(ops[k]?).bind (·.dst)
 refine wpIn_region_any ix ?_
 have C3:∀ k,k<=ops.size->(E k).length=e0.length:=by
  intro k
  induction k with
  |zero=>intro _;rw [lI]
  |succ k ih =>
   intro hk
   obtain ⟨o,ho⟩:=en k (by omega)
   rcases mr k o ho with ⟨_,_,_,_,h1,_⟩|⟨_,_,_,h1,_⟩ <;> rw [h1,HS,ih (by omega)]
 have vd:∀ k o,ops[k]? = some o->E (k+1)=put (E k) (dst k) (V k):=by
  intro k o ho
  have hd:dst k=o.dst:=by simp [dst,ho]
  rw [hd]
  rcases mr k o ho with ⟨_,_,_,_,h1,_⟩|⟨_,h2,_,h1,_⟩
  .exact h1
  .rw [h1,h2]
 have fin:∀ (listed:Array Bool) (ρ:bU) (a:Act) (w:World),(∀ k,k < ops.size->listed.getD k false=true)->bH ρ (eS e0 dst V (λk=>listed.getD k false) ops.size) a.tmps->a.defers=a0.defers ->
  (∃ m,m<=ops.size/\bj ρ (H m) w/\(∀ k,k < m->ks.getD k 2 % 3=2->listed.getD k false=true)/\(m=ops.size\/(ks.getD m 2 % 3=2/\listed.getD m false=false)))->Fr ρ0 ρ h0 h' w0 w->Q .normal a w:=by
  intro listed ρ a w aq iS oT o0 cy
  obtain ⟨m,fJ,iJ,sJ,xY⟩:=o0
  have zY:m=ops.size:=by
   rcases xY with h1|⟨_,h1⟩
   .exact h1
   .rcases kT m ops.size with h2|h2
    .rw [aq m h2] at h1;cases h1
    .omega
  subst zY
  rw [tC] at iJ
  have heq:∀ k,k<=ops.size->eS e0 dst V (λk=>listed.getD k false) k=E k:=by
   intro k
   induction k with
   |zero=>intro _;exact lI.symm
   |succ k ih =>
    intro hk
    obtain ⟨o,ho⟩:=en k (by omega)
    simp only [eS]
    rw [aC (aq k (by omega)),ih (by omega),vd k o ho]
  rw [heq _ (bg _),PU] at iS
  exact hQ ρ a w cy iJ iS oT
 have rU:∀ (listed:Array Bool),listed.size=ops.size->Region.ready .any ops listed=[]->∀ k,k < ops.size->listed.getD k false=true:=by
  intro listed Hc hr k
  induction k using Nat.strongRecOn with
  |_ k ih =>
   intro hk
   cases hb:listed.getD k false with
   |true=>rfl
   |false =>
    exfalso
    obtain ⟨o,ho⟩:=en k hk
    have cS:k∈Region.ready .any ops listed:=by
     rw [mem_ready]
     refine ⟨?_,o,ho,λe he zP=>?_⟩
     .have:k < listed.size:=by omega
      simp [this] at hb ⊢
      exact hb
     .have aS:=kD k o ho e (by simpa using he) zP
      exact ih e.on aS (by omega)
    rw [hr] at cS
    cases cS
 have main:∀ (fuel:Nat) (listed:Array Bool) (ρ:bU) (a:Act) (w:World),listed.size=ops.size->(List.range ops.size).countP (λk => !listed.getD k false)<=fuel ->
  (∀ (j:Nat) (o:Oper),ops[j]? = some o->listed.getD j false=true->∀ e∈o.after.toList,Region.binds .any e=true->listed.getD e.on false=true) ->
  bH ρ (eS e0 dst V (λk=>listed.getD k false) ops.size) a.tmps->a.defers=a0.defers ->
  (∃ m,m<=ops.size/\bj ρ (H m) w/\(∀ k,k < m->ks.getD k 2 % 3=2->listed.getD k false=true)/\(m=ops.size\/(ks.getD m 2 % 3=2/\listed.getD m false=false))) ->
  (∀ A L,ρ A=some L->ρ0 A=some L\/∃ j,j < ops.size/\listed.getD j false=true/\(H j).size<=A/\A < (H (j+1)).size) ->
  Fr ρ0 ρ h0 h' w0 w->wpAnyIn (WR rl) 0 P .any ops Q fuel listed a w:=by
  intro fuel
  induction fuel with
  |zero =>
   intro listed ρ a w Hc qV jm iS oT o0 tG cy
   have aq:∀ k,k < ops.size->listed.getD k false=true:=by
    intro k hk
    have h1:=List.countP_eq_zero.1 (Nat.le_zero.1 qV) k (mZ.2 hk)
    simpa using h1
   refine ⟨?_,fin listed ρ a w aq iS oT o0 cy⟩
   apply List.eq_nil_iff_forall_not_mem.2
   intro i hi
   rw [mem_ready] at hi
   obtain ⟨h1,o,ho,_⟩:=hi
   have aS:i < ops.size:=(jL.1 ho).1
   have h2:=aq i aS
   have:i < listed.size:=by omega
   simp [this] at h1 h2
   rw [h2] at h1
   cases h1
  |succ fuel ih =>
   intro listed ρ a w Hc qV jm iS oT o0 tG cy
   refine ⟨λhr=>fin listed ρ a w (rU listed Hc hr) iS oT o0 cy,?_⟩
   intro i hi
   rw [mem_ready] at hi
   obtain ⟨pS,o,ho,jw⟩:=hi
   have oV:i < ops.size:=(jL.1 ho).1
   have zN:listed.getD i false=false:=by
    have:i < listed.size:=by omega
    simp [this] at pS ⊢
    exact pS
   have vy:∀ e∈o.after.toList,Region.binds .any e=true->listed.getD e.on false=true:=λe he hb=>jw e (by simpa using he) hb
   have lY:∀ k,(listed.setIfInBounds i true).getD k false=(decide (k=i) || listed.getD k false):=by
    intro k
    by_cases hk:k=i
    .subst hk
     have:k < listed.size:=by omega
     simp [this]
    .simp [AE (Ne.symm hk),hk]
   have k9:∀ k ok,k < i->ops[k]? = some ok->listed.getD k false=false->ok.apart ops o=true/\ke (ks.getD k 2) (ks.getD i 2)=true:=by
    intro k ok tN fY hk
    rcases vx k i ok o tN fY ho with h1|h1
    .have:=Th (S:=λj=>listed.getD j false=true) kD jm i i o k (bg _) ho vy h1
     rw [hk] at this
     cases this
    .exact h1
   have fI:∀ j oj,i < j->ops[j]? = some oj->listed.getD j false=true->o.apart ops oj=true/\ke (ks.getD i 2) (ks.getD j 2)=true:=by
    intro j oj gj mj hj
    rcases vx i j o oj gj ho mj with h1|h1
    .have:=Th (S:=λj=>listed.getD j false=true) kD jm j j oj i (bg _) mj (jm j oj mj hj) h1
     rw [zN] at this
     cases this
    .exact h1
   have vp:∀ t,t∈o.looksAt ops->(eS e0 dst V (λk=>listed.getD k false) ops.size).get t=(E i).get t:=by
    intro t ht
    have p1:∀ k,k<=i->(eS e0 dst V (λk=>listed.getD k false) k).get t=(E k).get t:=by
     intro k
     induction k with
     |zero=>intro _;rw [lI];rfl
     |succ k jR =>
      intro hk
      obtain ⟨ok,fY⟩:=en k (by omega)
      rw [vd k ok fY]
      simp only [eS]
      split
      .exact MM (by rw [yV,C3 k (by omega)]) (jR (by omega))
      .rename_i hY
       rw [jR (by omega),Al]
       intro hd
       have nj:=(Oper.apart_spec (k9 k ok (by omega) fY (by simpa using hY)).1).1
       exact nj t (by simpa [dst,fY] using hd) ht
    have p2:∀ k,i<=k->k<=ops.size->(eS e0 dst V (λk=>listed.getD k false) k).get t=(eS e0 dst V (λk=>listed.getD k false) i).get t:=by
     intro k q8
     induction q8 with
     |refl=>intro _;rfl
     |step q8 jR =>
      rename_i k
      intro hk
      obtain ⟨ok,fY⟩:=en k (by omega)
      simp only [eS]
      split
      .rename_i hY
       rw [Al,jR (by omega)]
       intro hd
       have aV:i≠k:=λe=>by subst e;rw [zN] at hY;cases hY
       have Ll:i<=k:=q8
       have nj:=(Oper.apart_spec (fI k ok (by omega) fY hY).1).2.2
       exact nj t (by simpa [dst,fY] using hd) ht
      .exact jR (by omega)
    rw [p2 _ (by omega) (bg _),p1 i (bg _)]
   have DN:∀ x∈o.op.operands.toList,aX (eS e0 dst V (λk=>listed.getD k false) ops.size) x=aX (E i) x:=by
    intro x hx
    cases x with
    |tmp t=>exact vp t (ZM hx)
    |_=>rfl
   have D9:jG ops o (eS e0 dst V (λk=>listed.getD k false) ops.size)=jG ops o (E i):=by
    unfold jG
    cases Li:o.guard with
    |none=>rfl
    |some g =>
     obtain ⟨j,b⟩:=g
     simp only
     cases VF:(ops[j]?).bind (·.dst) with
     |none=>rfl
     |some t =>
      simp only
      rw [vp t (by unfold Oper.looksAt;rw [pM];right;simp [Li,VF])]
   have Dv:∀ t,(eS e0 dst V (λk=>(listed.setIfInBounds i true).getD k false) ops.size).get t=(put (eS e0 dst V (λk=>listed.getD k false) ops.size) o.dst (V i)).get t:=by
    intro t
    have VE:dst i=o.dst:=by simp [dst,ho]
    have p1:∀ k,k<=i->eS e0 dst V (λk=>(listed.setIfInBounds i true).getD k false) k=eS e0 dst V (λk=>listed.getD k false) k:=by
     intro k
     induction k with
     |zero=>intro _;rfl
     |succ k jR =>
      intro hk
      have tN:decide (k=i)=false:=by simp;omega
      cases hY:listed.getD k false with
      |true=>rw [GB (S:=λk=>(listed.setIfInBounds i true).getD k false) (by show (listed.setIfInBounds i true).getD k false=true;rw [lY k,hY];simp),GB (S:=λk=>listed.getD k false) hY,jR (by omega)]
      |false=>rw [AY (S:=λk=>(listed.setIfInBounds i true).getD k false) (by show (listed.setIfInBounds i true).getD k false=false;rw [lY k,hY,tN];rfl),AY (S:=λk=>listed.getD k false) hY,jR (by omega)]
    have p2:∀ k,i+1<=k->k<=ops.size->(eS e0 dst V (λk=>(listed.setIfInBounds i true).getD k false) k).get t=(put (eS e0 dst V (λk=>listed.getD k false) k) o.dst (V i)).get t:=by
     intro k q8
     induction q8 with
     |refl =>
      intro _
      rw [GB (S:=λk=>(listed.setIfInBounds i true).getD k false) (by show (listed.setIfInBounds i true).getD i false=true;rw [lY i];simp),p1 i (bg _),AY (S:=λk=>listed.getD k false) zN,VE]
     |step q8 jR =>
      rename_i k
      intro hk
      have Ll:i+1<=k:=q8
      obtain ⟨ok,fY⟩:=en k (by omega)
      have tN:decide (k=i)=false:=by simp;omega
      have ud:=jR (by omega)
      cases hY:listed.getD k false with
      |true =>
       rw [GB (S:=λk=>(listed.setIfInBounds i true).getD k false) (by show (listed.setIfInBounds i true).getD k false=true;rw [lY k,hY];simp),GB (S:=λk=>listed.getD k false) hY]
       have nj:=(Oper.apart_spec (fI k ok (by omega) fY hY).1).2.1
       have VG:dst k=ok.dst:=by simp [dst,fY]
       have hlen:(eS e0 dst V (λk=>(listed.setIfInBounds i true).getD k false) k).length=(eS e0 dst V (λk=>listed.getD k false) k).length:=by rw [yV,yV]
       by_cases K1:o.dst=some t
       .have aV:dst k≠some t:=by rw [VG];exact λe=>nj t K1 e
        rw [Al aV,ud]
        exact MM (by rw [HS]) (Al aV).symm
       .rw [Al K1] at ud
        rw [Al K1]
        exact MM hlen ud
      |false =>
       rw [AY (S:=λk=>(listed.setIfInBounds i true).getD k false) (by show (listed.setIfInBounds i true).getD k false=false;rw [lY k,hY,tN];rfl),AY (S:=λk=>listed.getD k false) hY]
       exact ud
    exact p2 _ (by omega) (bg _)
   have rp:(listed.setIfInBounds i true).size=ops.size:=by simp [Hc]
   have mc:(List.range ops.size).countP (λk => !(listed.setIfInBounds i true).getD k false)<=fuel:=by
    have:=Tq (p:=λk => !listed.getD k false) (p':=λk => !(listed.setIfInBounds i true).getD k false) (List.range ops.size)
     (λk _ hk=>by rw [lY k] at hk;simp at hk ⊢;exact hk.2) ⟨i,mZ.2 oV,by rw [zN];rfl,by rw [lY i];simp⟩
    omega
   have jn:∀ (j:Nat) (oj:Oper),ops[j]? = some oj->(listed.setIfInBounds i true).getD j false=true->∀ e∈oj.after.toList,Region.binds .any e=true->(listed.setIfInBounds i true).getD e.on false=true:=by
    intro j oj mj hj e he hb
    rw [lY e.on]
    rw [lY j] at hj
    by_cases lh:j=i
    .subst lh
     rw [ho] at mj
     cases mj
     rw [vy e he hb]
     simp
    .have VZ:listed.getD j false=true:=by simpa [lh] using hj
     rw [jm j oj mj VZ e he hb]
     simp
   have mg:∀ (ρ':bU) (u:ai),(∀ A L,ρ A=some L->ρ' A=some L)->VR ρ' (V i) u->bH ρ' (eS e0 dst V (λk=>(listed.setIfInBounds i true).getD k false) ops.size) (a.put o.dst u).tmps:=by
    intro ρ' u Lj hv
    have h1:=(iS.mono Lj).put hv o.dst
    exact ⟨by rw [yV,<- h1.1,HS,yV],λt=>by rw [Dv t];exact h1.2 t⟩
   have mf:∀ u,(a.put o.dst u).defers=a0.defers:=λu=>by cases o.dst <;> exact oT
   obtain ⟨m,fJ,iJ,sJ,xY⟩:=o0
   have jA:ks.getD i 2 % 3≠2->∀ (ρ':bU) (w':World),bj ρ' (H m) w'->∃ m,m<=ops.size/\bj ρ' (H m) w'/\(∀ k,k < m->ks.getD k 2 % 3=2->(listed.setIfInBounds i true).getD k false=true)/\(m=ops.size\/(ks.getD m 2 % 3=2/\(listed.setIfInBounds i true).getD m false=false)):=by
    intro oW ρ' w' cI
    refine ⟨m,fJ,cI,λk h1 h2=>by rw [lY k,sJ k h1 h2];simp,?_⟩
    rcases xY with h1|⟨h1,h2⟩
    .exact .inl h1
    .refine .inr ⟨h1,?_⟩
     have:m≠i:=λe=>by rw [e] at h1;exact oW h1
     rw [lY m,h2]
     simp [this]
   have gP:∀ (ρ':bU),(∀ A L,ρ' A=some L->ρ A=some L\/((H i).size<=A/\A < (H (i+1)).size)) ->
    ∀ A L,ρ' A=some L->ρ0 A=some L\/∃ j,j < ops.size/\(listed.setIfInBounds i true).getD j false=true/\(H j).size<=A/\A < (H (j+1)).size:=by
    intro ρ' rJ A L hA
    rcases rJ A L hA with h1|h1
    .rcases tG A L h1 with h2|⟨j,h2,h3,h4⟩
     .exact .inl h2
     .exact .inr ⟨j,h2,by rw [lY j,h3];simp,h4⟩
    .exact .inr ⟨i,oV,by rw [lY i];simp,h1⟩
   have lf:∀ A,(H i).size<=A->A < (H (i+1)).size->ρ A=none:=by
    intro A h1 h2
    cases hA:ρ A with
    |none=>rfl
    |some L =>
     exfalso
     rcases tG A L hA with h3|⟨j,h3,h4,h5,h6⟩
     .have h7:=(cn 0 i (by omega) (by omega)).size
      have h8:=(cn (i+1) ops.size (by omega) (bg _)).size
      rw [xn] at h7
      rw [tC] at h8
      rw [K8 A (by omega) (by omega)] at h3
      cases h3
     .have lh:j≠i:=λe=>by subst e;rw [zN] at h4;cases h4
      rcases kT j i with aS|mi
      .have:=(cn (j+1) i (by omega) (by omega)).size
       omega
      .have:=(cn (i+1) j (by omega) (by omega)).size
       omega
   unfold wpOpIn
   simp only [ho]
   rw [Tz iS,D9]
   rcases mr i o ho with ⟨eV,h2,jo,G0,_,hk⟩|⟨eV,hv,G0,_,hk⟩
   .rw [aC eV]
    have og:il ρ o:=(cE o (by simpa using Array.mem_of_getElem? ho)).mono cy.grow
    have hG:=Vn.mono cy.grow
    have tK:∀ hx,fp P T C (eS e0 dst V (λk=>listed.getD k false) ops.size) o hx=fp P T C (E i) o hx:=λhx=>YU hx DN
    by_cases hb:mE T o=true
    .rw [Sp hb] at hk
     have xJ:=(MJ hb jo).2 (H m)
     have hY:ks.getD i 2 % 3≠2:=by omega
     have rD:=Ar (h':=H m) hT hC hG iJ iS og (λA h1 h2=>by omega) (by rw [tK];exact xJ)
     refine rD.wp (Ak jo) λρ' u w' f1 s1 v1=>?_
     have eX:∀ A L,ρ' A=some L->ρ A=some L:=by
      intro A L hA
      cases hρ:ρ A with
      |some L1=>have:=f1.grow A L1 hρ;rw [hA] at this;exact this.symm
      |none=>have:=f1.fresh A L hA hρ;omega
     refine ih _ ρ' _ w' rp mc jn (mg ρ' u f1.grow v1) (mf u) (jA hY ρ' w' s1) (gP ρ' λA L hA=>.inl (eX A L hA)) ?_
     have k1:=cn m ops.size fJ (bg _)
     have k2:=cn 0 m (by omega) fJ
     rw [tC] at k1
     rw [xn] at k2
     exact cy.step f1 k1.low k1.size k2.size
    .have kI:=cn i ops.size (by omega) (bg _)
     have Hp:=cn (i+1) ops.size (by omega) (bg _)
     have Ho:=cn 0 i (by omega) (by omega)
     rw [tC] at kI Hp
     rw [xn] at Ho
     have mq:(H (i+1)).size=h2.size:=by rw [G0]
     have oe:h'.low<=h2.low:=by
      have h3:=Hp.low
      rw [G0] at h3
      exact iG h3 (Be _ _)
     have qZ:∀ A,(H (i+1)).get A=h2.get A:=λA=>by rw [G0];rfl
     by_cases di:(H i).size<=h2.low
     ./- it turns nothing that is there -/
      obtain ⟨nA,oW,rj⟩:=M9 (T:=T) (e:=E i) hb di
      rw [<- hk] at nA oW rj
      have VX:i < m:=by
       rcases xY with h3|⟨h3,h4⟩
       .omega
       .rcases kT i m with h5|h5
        .exact h5
        .exfalso
         have aV:m≠i:=λe=>by rw [e] at h3;exact nA h3
         obtain ⟨om,DM⟩:=en m (by omega)
         exact oW (Ic h3 (k9 m om (by omega) DM h4).2)
      have oo:∀ k,i<=k->k < m->ks.getD k 2 % 3=2->5<=ks.getD k 2/\((ks.getD i 2 % 3=0/\3<=ks.getD i 2/\ks.getD i 2+2≠ks.getD k 2)\/(ks.getD i 2 % 3=1/\3<=ks.getD i 2/\ks.getD k 2+2<=ks.getD i 2)):=by
       intro k h3 h4 h5
       have aV:k≠i:=λe=>by rw [e] at h5;exact nA h5
       have h6:=sJ k h4 h5
       obtain ⟨ok,fY⟩:=en k (by omega)
       rcases zse h5 (fI k ok (by omega) fY h6).2 with h8|h8
       .exact (oW h8).elim
       .exact h8
      have Df:∀ (B j:Nat),i<=j->j<=m->B < (H j).size->(∀ k,i<=k->k < m->ks.getD k 2 % 3=2->5+3*B≠ks.getD k 2)->(H m).get B=(H j).get B:=by
       intro B j h3 h4 h5 h6
       have hx:∀ d,j+d<=m->(H (j+d)).get B=(H j).get B:=by
        intro d
        induction d with
        |zero=>intro _;rfl
        |succ d Ea =>
         intro hd
         obtain ⟨ok,fY⟩:=en (j+d) (by omega)
         have h7:=Ea (by omega)
         have h8:B < (H (j+d)).size:=eR h5 (cn j (j+d) (by omega) (by omega)).size
         rw [<- h7]
         by_cases h9:ks.getD (j+d) 2 % 3=2
         .exact (mr (j+d) ok fY).other h9 (oo (j+d) (by omega) (by omega) h9).1 B (h6 (j+d) (by omega) (by omega) h9)
         .exact (mr (j+d) ok fY).same hg h9 B h8
       have h7:=hx (m - j) (by omega)
       rwa [show j+(m - j)=m by omega] at h7
      by_cases kK:∃ t a x,o.op=.load t a/\aX (E i) a=.pointer (some x)/\ks.getD i 2=3+3*x.block
      .obtain ⟨t,a',x,aG,hx,V2⟩:=kK
       have xJ:fp P T C (E i) o (H m)=some (V i,H m):=by
        unfold fp at jo ⊢
        simp only [aG,hx,bS,cd] at jo ⊢
        obtain ⟨r,hr,h3,_⟩:=jo
        refine ⟨r,?_,h3,trivial⟩
        have aS:x.block < (H i).size:=ztY hr
        rw [ZK (h:={ H i with low:=(H i).size }) (by rw [Heap.i5];exact Df x.block i (bg _) (by omega) aS (λk h4 h5 h6=>by have:=(oo k h4 h5 h6).2;omega))]
        exact hr
       have rD:=Ar (h':=H m) hT hC hG iJ iS og (λA h1 h2=>by omega) (by rw [tK];exact xJ)
       refine rD.wp (Ak jo) λρ' u w' f1 s1 v1=>?_
       have eX:∀ A L,ρ' A=some L->ρ A=some L:=by
        intro A L hA
        cases hρ:ρ A with
        |some L1=>have:=f1.grow A L1 hρ;rw [hA] at this;exact this.symm
        |none=>have:=f1.fresh A L hA hρ;omega
       refine ih _ ρ' _ w' rp mc jn (mg ρ' u f1.grow v1) (mf u) (jA nA ρ' w' s1) (gP ρ' λA L hA=>.inl (eX A L hA)) ?_
       have k1:=cn m ops.size fJ (bg _)
       have k2:=cn 0 m (by omega) fJ
       rw [tC] at k1
       rw [xn] at k2
       exact cy.step f1 k1.low k1.size k2.size
      have LC:∃ hx xl:Heap,hx.size=(H i).size/\bj ρ hx w/\fp P T C (E i) o hx=some (V i,xl)/\xl.size=h2.size/\h'.low<=xl.low/\(H i).size<=xl.low/\∀ A,(H i).size<=A->A < h2.size->(H m).get A=xl.get A:=by
       rcases rj with h3|h3|⟨⟨t,n,ps,aG⟩,V2⟩
       .have iy:∀ k,i<=k->k < m->ks.getD k 2 % 3≠2:=by
         intro k h4 h5 h6
         have:=(oo k h4 h5 h6).2
         omega
        have VS:∀ A,A < (H i).size->(H m).get A=(H i).get A:=eX i m (by omega) fJ iy
        have xR:∀ A,A < (H (i+1)).size->(H m).get A=(H (i+1)).get A:=eX (i+1) m (by omega) fJ (λk h3 h4=>iy k (by omega) h4)
        refine ⟨{ H i with low:=(H i).size },h2,rfl,?_,jo,rfl,oe,di,λA h4 h5=>by rw [xR A (by omega),qZ A]⟩
        refine iJ.swap λA L hA=>?_
        rw [Heap.i5]
        rcases kT A (H i).size with h3|h3
        .exact .inl (VS A h3).symm
        .right
         unfold Heap.get
         rw [ay (by omega)]
       .exact (kK h3).elim
       .have Wx:=(cn i m (by omega) fJ).size
        have xK:=jo
        unfold fp at xK
        simp only [aG] at xK
        obtain ⟨b,qN,xw⟩:=Xx (h1:=(⟨(H i).size,(H m).tr,(H i).size⟩:Heap)) xK rfl
        have rn:h2.low=(H i).size:=by rw [qN];rfl
        have tX:h2.size=(H i).size+1:=by rw [qN];rfl
        refine ⟨⟨(H i).size,(H m).tr,(H i).size⟩,_,rfl,?_,by unfold fp;simp only [aG];exact xw,by rw [tX];rfl,by rw [rn] at oe;exact oe,bg _,λA h4 h5=>?_⟩
        .refine iJ.swap λA L hA=>?_
         unfold Heap.get
         rcases kT A (H i).size with h3|h3
         .left
          rw [aC h3,aC (by omega)]
         .right
          rw [ay (show ¬ A < (H i).size by omega)]
        .have hA:A=(H i).size:=by omega
         subst hA
         rw [Df _ (i+1) (by omega) (by omega) (by rw [mq,tX];omega) (λk h6 h7 h8=>by have:=(oo k h6 h7 h8).2;omega),qZ,qN,Heap.bX,Heap.bX,aC rfl,aC rfl]
      obtain ⟨hx,xl,kL,rF,K7,h2s,rn,Lk,hN⟩:=LC
      have rD:=Ar (h':=xl) hT hC hG rF iS og (λA h3 h4=>lf A (by omega) (by omega)) (by rw [tK];exact K7)
      refine rD.wp (Ak jo) λρ' u w' f1 s1 v1=>?_
      have jt:∀ A L,ρ' A=some L->ρ A=none->(H i).size<=A/\A < h2.size/\w.heap.size<=L.b:=by
       intro A L hA hn
       obtain ⟨h3,h4,h5⟩:=f1.fresh A L hA hn
       refine ⟨by omega,by omega,?_⟩
       rcases h5 with h5|⟨A0,L0,h6,_,h7,h8⟩
       .exact h5
       .rw [lf A0 (by omega) (by omega)] at h6
        cases h6
      have yr:∀ b,b < w.heap.size->w'.heap[b]? = w.heap[b]? := by
       intro b oQ
       refine f1.keep b oQ λA L hA _=>?_
       rcases kT A (H i).size with h3|h3
       .left;omega
       .right
        rcases kT A h2.size with h4|h4
        .rw [lf A h3 (by omega)] at hA;cases hA
        .omega
      have rE:bj ρ' (H m) w':=by
       refine ⟨λA L hA=>?_,λA A' L L' hA da aV i6=>?_⟩
       .cases hρ:ρ A with
        |none =>
         obtain ⟨h3,h4,_⟩:=jt A L hA hρ
         rw [hN A h3 h4]
         exact s1.im A L hA
        |some L1 =>
         have e:L1=L:=by have:=f1.grow A L1 hρ;rw [hA] at this;exact (Option.some.inj this).symm
         subst e
         exact (iJ.im A L1 hρ).keep f1.grow f1.size λ_=>yr L1.b (iJ.lt hρ)
       .cases hρ:ρ A with
        |none =>
         obtain ⟨h3,h4,h5⟩:=jt A L hA hρ
         cases rJ:ρ A' with
         |none =>
          obtain ⟨h6,h7,h8⟩:=jt A' L' da rJ
          have hx:=s1.inj A A' L L' hA da aV i6
          unfold live jx at hx ⊢
          rw [hN A h3 h4,hN A' h6 h7]
          exact hx
         |some L1 =>
          have e:L1=L':=by have:=f1.grow A' L1 rJ;rw [da] at this;exact (Option.some.inj this).symm
          subst e
          have:=iJ.lt rJ
          omega
        |some L1 =>
         have e:L1=L:=by have:=f1.grow A L1 hρ;rw [hA] at this;exact (Option.some.inj this).symm
         subst e
         cases rJ:ρ A' with
         |none =>
          obtain ⟨h6,h7,h8⟩:=jt A' L' da rJ
          have:=iJ.lt hρ
          omega
         |some L2 =>
          have e:L2=L':=by have:=f1.grow A' L2 rJ;rw [da] at this;exact (Option.some.inj this).symm
          subst e
          exact iJ.inj A A' L1 L2 hρ rJ aV i6
      refine ih _ ρ' _ w' rp mc jn (mg ρ' u f1.grow v1) (mf u) ?_ (gP ρ' λA L hA=>?_) (cy.step f1 rn (by have:=Hp.size;omega) (by rw [kL];exact Ho.size))
      .refine ⟨m,fJ,rE,λk h3 h4=>by rw [lY k,sJ k h3 h4];simp,?_⟩
       rcases xY with h3|⟨h3,h4⟩
       .exact .inl h3
       .refine .inr ⟨h3,?_⟩
        rw [lY m,h4,show decide (m=i)=false by simp;omega]
        rfl
      .cases hρ:ρ A with
       |none=>right;have:=jt A L hA hρ;omega
       |some L1=>left;have:=f1.grow A L1 hρ;rw [hA] at this;rw [this]
     .obtain ⟨nA,_⟩:=HP (T:=T) (e:=E i) hb di
      rw [<- hk] at nA
      have Wg:m=i:=by
       rcases Nat.lt_trichotomy m i with h3|h3|h3
       .exfalso
        rcases xY with h4|⟨h4,h5⟩
        .omega
        .obtain ⟨om,DM⟩:=en m (by omega)
         have:=Ic h4 (k9 m om h3 DM h5).2
         omega
       .exact h3
       .have:=sJ i h3 nA
        rw [zN] at this
        cases this
      subst Wg
      have rF:bj ρ { H m with low:=(H m).size } w:=iJ.swap λA L _=>.inl rfl
      have rD:=Ar (h':=h2) hT hC hG rF iS og (λA h3 h4=>lf A h3 (by omega)) (by rw [tK];exact jo)
      refine rD.wp (Ak jo) λρ' u w' f1 s1 v1=>?_
      have DH:∃ m',m+1<=m'/\m'<=ops.size/\(∀ k,m+1<=k->k < m'->ks.getD k 2 % 3≠2)/\(m'=ops.size\/ks.getD m' 2 % 3=2):=by
       have hx:∀ d,d<=ops.size - (m+1)->(∀ k,m+1<=k->k < m+1+d->ks.getD k 2 % 3≠2)\/∃ m',m+1<=m'/\m'<=ops.size/\(∀ k,m+1<=k->k < m'->ks.getD k 2 % 3≠2)/\(m'=ops.size\/ks.getD m' 2 % 3=2):=by
        intro d
        induction d with
        |zero=>intro _;left;intro k h3 h4;omega
        |succ d Ea =>
         intro hd
         rcases Ea (by omega) with h3|h3
         .by_cases h4:ks.getD (m+1+d) 2 % 3=2
          .exact .inr ⟨m+1+d,by omega,by omega,h3,.inr h4⟩
          .left
           intro k h5 h6
           by_cases h7:k=m+1+d
           .rw [h7];exact h4
           .exact h3 k h5 (by omega)
         .exact .inr h3
       rcases hx (ops.size - (m+1)) (bg _) with h3|h3
       .exact ⟨ops.size,by omega,bg _,λk h4 h5=>h3 k h4 (by omega),.inl rfl⟩
       .exact h3
      obtain ⟨m',Lz,xX,DA,LA⟩:=DH
      have xR:∀ A,A < (H (m+1)).size->(H m').get A=(H (m+1)).get A:=eX (m+1) m' Lz xX DA
      have tH:∀ A L,ρ A=some L->A < h2.size\/(ρ0 A=some L/\h'.size<=A):=by
       intro A L hA
       rcases tG A L hA with h3|⟨j,h3,h4,h5,h6⟩
       .rcases kT A h2.size with h7|h7
        .exact .inl h7
        .rcases kT A h'.size with h8|h8
         .have h9:=Ho.size
          have fO:=(cn m (m+1) (by omega) (by omega)).size
          rw [K8 A (by omega) h8] at h3
          cases h3
         .exact .inr ⟨h3,h8⟩
       .left
        rcases kT j (m+1) with h7|h7
        .have:=(cn (j+1) (m+1) (by omega) (by omega)).size
         omega
        .exfalso
         obtain ⟨oj,mj⟩:=en j h3
         have h9:ks.getD j 2=0:=Ic nA (fI j oj (by omega) mj h4).2
         have:=((mr j oj mj).still h9).1
         omega
      have rE:bj ρ' (H m') w':=by
       refine s1.swap λA L hA=>?_
       have da:A < h2.size\/h'.size<=A:=by
        cases hρ:ρ A with
        |none=>left;exact (f1.fresh A L hA hρ).2.1
        |some L1 =>
         rcases tH A L1 hρ with h3|h3
         .exact .inl h3
         .exact .inr h3.2
       rcases da with h3|h3
       .left
        rw [xR A (by omega),qZ A]
       .right
        have h4:=(cn m' ops.size xX (bg _)).size
        rw [tC] at h4
        unfold Heap.get
        rw [ay (by omega)]
      refine ih _ ρ' _ w' rp mc jn (mg ρ' u f1.grow v1) (mf u) ⟨m',xX,rE,?_,?_⟩ (gP ρ' λA L hA=>?_) (cy.step f1 oe (by have:=Hp.size;omega) Ho.size)
      .intro k h3 h4
       rw [lY k]
       rcases kT k (m+1) with h5|h5
       .by_cases h6:k=m
        .simp [h6]
        .rw [sJ k (by omega) h4];simp
       .exact (DA k h5 h3 h4).elim
      .rcases LA with h3|h3
       .exact .inl h3
       .rcases kT m' ops.size with h4|h4
        .refine .inr ⟨h3,?_⟩
         rw [lY m',show decide (m'=m)=false by simp;omega,zB]
         cases oQ:listed.getD m' false with
         |false=>rfl
         |true =>
          exfalso
          obtain ⟨om,DM⟩:=en m' h4
          have:=Ic nA (fI m' om (by omega) DM oQ).2
          omega
        .exact .inl (by omega)
      .cases hρ:ρ A with
       |none =>
        right
        obtain ⟨h3,h4,_⟩:=f1.fresh A L hA hρ
        have qF:(H m).size<=A:=h3
        omega
       |some L1=>left;have:=f1.grow A L1 hρ;rw [hA] at this;rw [this]
   .rw [ay (by rw [eV];simp)]
    refine ⟨λ_ _=>trivial,?_⟩
    have hu:VR ρ (V i) undef:=by rw [hv];exact .undef ρ
    exact ih _ ρ _ w rp mc jn (mg ρ undef (λ_ _ h=>h) hu) (mf undef) (jA (by omega) ρ w iJ) (gP ρ λA L hA=>.inl hA) cy
 have oW:=cn 0 ops.size (by omega) (bg _)
 rw [xn,tC] at oW
 have nw:∀ k,(Array.replicate ops.size false).getD k false=false:=by
  intro k
  rcases kT k ops.size with h1|h1 <;> simp [h1]
 have Dx:∀ k,eS e0 dst V (λk=>(Array.replicate ops.size false).getD k false) k=e0:=by
  intro k
  induction k with
  |zero=>rfl
  |succ k ih=>rw [AY (S:=λk=>(Array.replicate ops.size false).getD k false) (nw k),ih]
 refine main ops.size _ ρ0 a0 _ (by simp) (by have:=List.countP_le_length (p:=λk => !(Array.replicate ops.size false).getD k false) (l:=List.range ops.size);simpa using this) ?_ ?_ rfl ?_ ?_ ?_
 .intro j o _ hj
  rw [nw j] at hj
  cases hj
 .rw [Dx];exact K3
 ./- the first that may turn something -/
  have xM:∃ m,m<=ops.size/\(∀ k,k < m->ks.getD k 2 % 3≠2)/\(m=ops.size\/ks.getD m 2 % 3=2):=by
   have hx:∀ d,d<=ops.size->(∀ k,k < d->ks.getD k 2 % 3≠2)\/∃ m,m<=ops.size/\(∀ k,k < m->ks.getD k 2 % 3≠2)/\(m=ops.size\/ks.getD m 2 % 3=2):=by
    intro d
    induction d with
    |zero=>intro _;left;intro k h4;omega
    |succ d Ea =>
     intro hd
     rcases Ea (by omega) with h3|h3
     .by_cases h4:ks.getD d 2 % 3=2
      .exact .inr ⟨d,by omega,h3,.inr h4⟩
      .left
       intro k h6
       by_cases h7:k=d
       .rw [h7];exact h4
       .exact h3 k (by omega)
     .exact .inr h3
   rcases hx ops.size (bg _) with h3|h3
   .exact ⟨ops.size,bg _,h3,.inl rfl⟩
   .exact h3
  obtain ⟨m,fJ,iJ,sJ⟩:=xM
  refine ⟨m,fJ,?_,λk h1 h2=>(iJ k h1 h2).elim,?_⟩
  .have yi:bj ρ0 h0 { w0 with drawn:=w0.drawn+1 }:=Wt.same rfl
   refine yi.swap λA L hA=>?_
   rcases kT A h0.size with h1|h1
   .left
    have:=eX 0 m (by omega) fJ (λk _ h3=>iJ k h3) A (by rw [xn];exact h1)
    rw [this,xn]
   .rcases kT A h'.size with h2|h2
    .rw [K8 A h1 h2] at hA;cases hA
    .right
     have h4:=(cn m ops.size fJ (bg _)).size
     rw [tC] at h4
     unfold Heap.get
     rw [ay (by omega)]
  .rcases sJ with h1|h1
   .exact .inl h1
   .exact .inr ⟨h1,nw m⟩
 .intro A L hA;exact .inl hA
 .exact ⟨λ_ _ h=>h,λA L h1 h2=>(by rw [h1] at h2;cases h2),rfl,rfl,rfl,bg _,oW.size,oW.low,λ_ _ _=>rfl,oW.get⟩
end
end Go.Am
namespace Go.Am
open Go.RowKit
variable {C:Fn->List ai->Heap->Option (ai × Heap)} {v:ai} {h h':Heap} {E:Code->Env->Heap->Option (Ex × Env × Heap)} {fn:Func} {ρ:bU}

abbrev Ov:=FuncId->Option (List ai->Heap->Option (ai × Heap))

def fM:Env->List Tmp->List ai->Env
 |e,t::ts,v::vs=>fM (e.set t v) ts vs
 |e,_,_=>e
def vU (A:Nat) (jump:Option Code) (h:Heap):Option (ai × Heap) :=
 match h.get A with
 |some (.loop env ps assign body _ _)=>some (.bool jump.isNone,h.set A (.loop env ps assign body (if jump.isNone then .ready else .done) jump))
 |_=>none
def wt (E:Code->Env->Heap->Option (Ex × Env × Heap)) (A:Nat) (args:List ai) (h:Heap):Option (ai × Heap) :=
 match h.get A with
 |some (.loop env ps assign body _ _) =>
  if args.length=ps.length then
   match E assign (fM env ps args) h with
   |some (.normal,e1,h1)=>match h1.get A with
    |some (.loop nh yF kW qp .ready gW) =>
     (match E body e1 (h1.set A (.loop nh yF kW qp .busy gW)) with
     |some (.normal,_,h2)=>vU A none h2
     |some (.ret,_,h2)=>vU A (some .ret) h2
     |some (.exit id,_,h2)=>vU A (some (.exit id)) h2
     |none=>none)
    |_=>none
   |_=>none
  else none
 |_=>none

def N8 (d:Oper):Option Tmp:=match d.op with
 | .defer ⟨.value (.tmp t),args,_⟩=>if args.isEmpty && d.guard.isNone && d.dst.isNone then some t else none
 |_=>none
def uK:Code->Option (List Code × Oper × Tmp × Code)
 | .seq (.region id ops false) b=>(match ops.toList with
  | [m,d]=>(match N8 d with
   |some t=>if m.guard.isNone then some ([],m,t,b) else (uK b).map λ(pre,m,t,r)=>(.region id ops false::pre,m,t,r)
   |none=>(uK b).map λ(pre,m,t,r)=>(.region id ops false::pre,m,t,r))
  |_=>(uK b).map λ(pre,m,t,r)=>(.region id ops false::pre,m,t,r))
 | .seq a b=>(uK b).map λ(pre,m,t,r)=>(a::pre,m,t,r)
 |_=>none
def r7 (E:Code->Env->Heap->Option (Ex × Env × Heap)):List Code->Env->Heap->Option (Env × Heap)
 | [],e,h=>some (e,h)
 |c::cs,e,h=>match E c e h with
  |some (.normal,e',h')=>r7 E cs e' h'
  |_=>none
section
variable (P:Program) (T:bm)
def pG (E:Code->Env->Heap->Option (Ex × Env × Heap)) (fn:Func) (g:ai) (e3:Env) (h3:Heap):Option (ai × Heap) :=
 match g with
 | .func (.func g) fi ca=>(T.fn g).bind λfg=>fg.body.bind λcg=>if jF cg then
  (match E cg ((fi.toList++ca.toList)++List.replicate (fg.ntmps - (fi.toList++ca.toList).length) undef) h3 with
  |some (.ret,e4,h4)=>(jH T fg e4 h4).bind λ_=>(jH T fn e3 h4).map λv=>(v,h4)
  |some (.normal,e4,h4)=>(jH T fg e4 h4).bind λ_=>(jH T fn e3 h4).map λv=>(v,h4)
  |_=>none)
  else none
 |_=>none
def wj (E:Code->Env->Heap->Option (Ex × Env × Heap)) (C:Fn->List ai->Heap->Option (ai × Heap)) (fn:Func) (c:Code) (e:Env) (h:Heap):Option (ai × Heap) :=
 (uK c).bind λ(pre,m,t,rest)=>if pre.all jF && jF rest then
  (r7 E pre e h).bind λ(e1,h1)=>(fp P T C e1 m h1).bind λ(v,h2) =>
   match E rest (put e1 m.dst v) h2 with
   |some (.ret,e3,h3)=>pG T E fn ((put e1 m.dst v).get t) e3 h3
   |some (.normal,e3,h3)=>pG T E fn ((put e1 m.dst v).get t) e3 h3
   |_=>none
 else none
end

def call (P:Program) (T:bm) (ov:Ov):Nat->Fn->List ai->Heap->Option (ai × Heap)
 |0,_,_,_=>none
 |n+1,.func f,args,h =>
  match ov f with
  |some g=>g args h
  |none =>
   (T.fn f).bind λfn=>fn.body.bind λc =>
   if T.CT f then wj P T (cT P T (call P T ov n) (mH P T (call P T ov n)) none n) (call P T ov n) fn c (args++List.replicate (fn.ntmps - args.length) undef) h else
   match cT P T (call P T ov n) (mH P T (call P T ov n)) none n c (args++List.replicate (fn.ntmps - args.length) undef) h with
   |some (.ret,e,h')=>(jH T fn e h').map λv=>(v,h')
   |some (.normal,e,h')=>(jH T fn e h').map λv=>(v,h')
   |_=>none
 |n+1,.yield A,args,h=>wt (cT P T (call P T ov n) (mH P T (call P T ov n)) (some A) n) A args h
 |_,_,_,_=>none

def uV (P:Program) (gs:List Nat) (ov:Ov):Prop :=
 ∀ f g,ov f=some g->∀ args h v h',g args h=some (v,h')->aT h h'/\∀ ρ w (aB:Array ai),cf gs ρ->bj ρ h w->dL ρ h h'->bQ ρ args aB.toList->OH P ρ h h' w v f aB

section
variable {P:Program} {T:bm} {ov:Ov}

theorem Yc (hg:oG C) {ops:Array Oper} (l:List Oper) (e e':Env) (h h':Heap) (ks:List Nat) (ab:mR P T C ops l e h=some (ks,e',h')):aT h h':=by
 induction l generalizing e h ks with
 |nil=>simp only [mR,de,cd] at ab;obtain ⟨_,_,rfl⟩:=ab;exact .refl _
 |cons o l ih =>
  simp only [mR] at ab
  split at ab
  .split at ab
   .rename_i v h2 hr
    simp only [bS,Prod.exists,cd] at ab
    obtain ⟨df,x1,x2,bz,_,rfl,rfl⟩:=ab
    have hk:=yP hg hr
    refine aT.trans ?_ (ih _ _ _ bz)
    exact ⟨hk.size,sx _ _,λA h3 h4=>hk.get A h3 (eR h4 (Be _ _))⟩
   .cases ab
  .simp only [bS,Prod.exists,cd] at ab
   obtain ⟨df,x1,x2,bz,_,rfl,rfl⟩:=ab
   exact ih _ _ _ bz

theorem yS (hg:oG C):Oo (mH P T C):=by
 intro ops e h e' h' ab
 unfold mH at ab
 split at ab
 .rename_i hr
  split at ab
  .cases ab;exact Yc hg _ _ _ _ _ _ hr
  .cases ab
 .cases ab

theorem HB {A:Nat} {jump:Option Code} (ab:vU A jump h=some (v,h')):aT h h':=by
 unfold vU at ab
 split at ab
 .rename_i hg;cases ab;exact .set _ (Heap.aW hg)
 .cases ab
theorem Zs (hE:∀ c e h x e' h',E c e h=some (x,e',h')->aT h h') {A:Nat} {args:List ai} (ab:wt E A args h=some (v,h')):aT h h':=by
 unfold wt at ab
 split at ab
 .split at ab
  .split at ab
   .rename_i h1 tU
    split at ab
    .rename_i Dt
     have hk:∀ b,aT h (h1.set A b):=λb=>(hE _ _ _ _ _ _ tU).trans (aT.set b (Heap.aW Dt))
     split at ab
     .rename_i fj;exact ((hk _).trans (hE _ _ _ _ _ _ fj)).trans (HB ab)
     .rename_i fj;exact ((hk _).trans (hE _ _ _ _ _ _ fj)).trans (HB ab)
     .rename_i fj;exact ((hk _).trans (hE _ _ _ _ _ _ fj)).trans (HB ab)
     .cases ab
    .cases ab
   .cases ab
  .cases ab
 .cases ab

theorem Hz {E:Code->Env->Heap->Option (Ex × Env × Heap)} (hE:∀ c e h x e' h',E c e h=some (x,e',h')->aT h h'):∀ (pre:List Code) (e e':Env) (h h':Heap),r7 E pre e h=some (e',h')->aT h h'
 | [],e,e',h,h',ab=>by simp only [r7,de,cd] at ab;obtain ⟨_,rfl⟩:=ab;exact .refl _
 |c::cs,e,e',h,h',ab=>by
  simp only [r7] at ab
  split at ab
  .rename_i hr
   exact (hE _ _ _ _ _ _ hr).trans (Hz hE cs _ _ _ _ ab)
  .cases ab
theorem yQ (hE:∀ c e h x e' h',E c e h=some (x,e',h')->aT h h') {g:ai} {e3:Env} {h3:Heap} (ab:pG T E fn g e3 h3=some (v,h')):aT h3 h':=by
 unfold pG at ab
 split at ab
 .simp only [bB] at ab
  obtain ⟨fg,_,cg,_,ab⟩:=ab
  split at ab
  .split at ab
   .rename_i hr
    simp only [bB,bS,cd] at ab
    obtain ⟨_,_,_,_,_,rfl⟩:=ab
    exact hE _ _ _ _ _ _ hr
   .rename_i hr
    simp only [bB,bS,cd] at ab
    obtain ⟨_,_,_,_,_,rfl⟩:=ab
    exact hE _ _ _ _ _ _ hr
   .cases ab
  .cases ab
 .cases ab
theorem Y6 (hC:oG C) (hE:∀ c e h x e' h',E c e h=some (x,e',h')->aT h h') {c:Code} {e:Env} (ab:wj P T E C fn c e h=some (v,h')):aT h h':=by
 unfold wj at ab
 simp only [bB,Prod.exists] at ab
 obtain ⟨pre,m,t,rest,_,ab⟩:=ab
 split at ab
 .simp only [bB,Prod.exists] at ab
  obtain ⟨e1,h1,hp,v1,h2,ho,ab⟩:=ab
  split at ab
  .rename_i hr
   exact (((Hz hE _ _ _ _ _ hp).trans (yP hC ho)).trans (hE _ _ _ _ _ _ hr)).trans (yQ hE ab)
  .rename_i hr
   exact (((Hz hE _ _ _ _ _ hp).trans (yP hC ho)).trans (hE _ _ _ _ _ _ hr)).trans (yQ hE ab)
  .cases ab
 .cases ab
theorem SG {gs:List Nat} (lK:uV P gs ov):∀ n,oG (call P T ov n)
 |0=>by intro f args h v h' ab;simp [call] at ab
 |n+1=>by
  intro f args h v h' ab
  have ih:=SG lK n
  cases f with
  |func f =>
   simp only [call] at ab
   split at ab
   .rename_i g hg
    exact (lK f g hg args h v h' ab).1
   .simp only [bB] at ab
    obtain ⟨fn,_,c,_,ab⟩:=ab
    split at ab
    .exact Y6 ih (λc e h x e' h' hr=>yR ih (yS ih) _ _ _ _ _ _ _ _ hr) ab
    split at ab
    .rename_i hr
     simp only [bS,cd] at ab
     obtain ⟨_,_,_,rfl⟩:=ab
     exact yR ih (yS ih) _ _ _ _ _ _ _ _ hr
    .rename_i hr
     simp only [bS,cd] at ab
     obtain ⟨_,_,_,rfl⟩:=ab
     exact yR ih (yS ih) _ _ _ _ _ _ _ _ hr
    .cases ab
  |yield A =>
   simp only [call] at ab
   exact Zs (λc e h x e' h' hr=>yR ih (yS ih) _ _ _ _ _ _ _ _ hr) ab
  |_=>simp [call] at ab

theorem bH.enter {args:List ai} {aB:Array ai} (hv:bQ ρ args aB.toList) (n:Nat):bH ρ (args++List.replicate (n - args.length) undef) (aB++Array.replicate (n - aB.size) undef):=by
 have hl:args.length=aB.size:=by simpa using hv.1
 refine ⟨by simp [hl],λi=>?_⟩
 rw [Env.get_eq]
 rcases kT i args.length with h1|h1
 .rw [kR h1]
  have hx:args[i]? = some args[i]:=lD h1
  obtain ⟨y,hy,cz⟩:=hv.get hx
  have h2:i < aB.size:=by omega
  have e1:(aB++Array.replicate (n - aB.size) undef).getD i undef=y:=by
   have h3:aB[i]? = some y:=by simpa using hy
   simp [Array.getElem?_append_left h2,h3]
  rw [e1,hx]
  exact cz
 .rw [lS h1]
  have e1:(aB++Array.replicate (n - aB.size) undef).getD i undef=undef:=by
   have h3:aB.size<=i:=by omega
   simp only [Array.getD_eq_getD_getElem?,Array.getElem?_append_right h3]
   by_cases h4:i - aB.size < n - aB.size
   .simp [h4]
   .simp [h4]
  rw [e1]
  by_cases h4:i - args.length < n - args.length
  .simp [h4];exact .undef ρ
  .simp [h4];exact .undef ρ

theorem bH.set {ρ:bU} {e:Env} {tmps:Array ai} (he:bH ρ e tmps) {v u:ai} (hv:VR ρ v u) (d:Nat):bH ρ (Env.set e d v) (tmps.setIfInBounds d u):=by
 have:=bH.put (a:={ tmps:=tmps,defers:=[] }) he hv (some d)
 exact this

theorem bH.fM {ρ:bU}:∀ (ps:List Tmp) (args:List ai) (aB:List ai) (e:Env) (tmps:Array ai),bH ρ e tmps->bQ ρ args aB->bH ρ (Am.fM e ps args) ((ps.zip aB).foldl (λtmps (t,a)=>tmps.setIfInBounds t a) tmps)
 | [],args,aB,e,tmps,he,_=>by cases args <;> exact he
 |t::ps,[],aB,e,tmps,he,hv=>by rw [hv.of_nil];exact he
 |t::ps,v::args,aB,e,tmps,he,hv=>by
  obtain ⟨u,m,rfl,h1,h2⟩:=hv.of_cons
  exact bH.fM ps args m _ _ (he.set h1 t) h2

theorem R7 {ρ:bU} {h:Heap} {fn:Func} {tmps:Array ai} {R:Ending->World->Prop} {n0:Nat}:∀ (rs:List Nat) (w:World),rs.Nodup->(∀ r∈rs,n0<=r/\w.heap[r]? = some (.deferred (some []))/\∀ A L,ρ A=some L->L.b≠r)->bj ρ h w ->
 (∀ w',bj ρ h w'->w'.os=w.os->w'.tape=w.tape->w'.output=w.output->w'.heap.size=w.heap.size->(∀ b,(b < n0\/∃ A L,ρ A=some L/\L.b=b)->w'.heap[b]? = w.heap[b]?)->∃ v,(results fn tmps).run P w'=.ok v w'/\R (.returned v) w') ->
 LeavesInM Fence.wide 0 P fn tmps R (rs.map λr=>{ target:=.collected r,args:=#[] }) .returning w
 | [],w,_,_,hs,hR=>hR w hs rfl rfl rfl rfl (λ_ _=>rfl)
 |r::rs,w,Hf,aq,hs,hR=>by
  obtain ⟨a1,a2,a3⟩:=aq r (by simp)
  have aS:r < w.heap.size:=(jL.1 a2).1
  refine ⟨by simp,.inl ⟨r,_,rfl,run_takeDeferred a2,?_⟩⟩
  obtain ⟨Wh,zZ⟩:=List.nodup_cons.1 Hf
  have cA:(w.putObj r (.deferred none)).heap.size=w.heap.size:=by rw [HE];simp
  refine R7 (n0:=n0) rs _ zZ (λq hq=>?_) ⟨λA L hA=>(hs.im A L hA).keep (λ_ _ h=>h) (by rw [cA];exact bg _) (λ_=>HJ (a3 A L hA)),hs.inj⟩ λw' Ac h1 h2 h3 h4 h5=>?_
  .obtain ⟨b1,b2,b3⟩:=aq q (by simp [hq])
   exact ⟨b1,(HJ (λ(e:q=r)=>Wh (e ▸ hq))).trans b2,b3⟩
  .refine hR w' Ac h1 h2 h3 (h4.trans cA) λb hb=>(h5 b hb).trans (HJ λe=>?_)
   subst e
   rcases hb with hb|⟨A,L,hA,hb⟩
   .omega
   .exact a3 A L hA hb

inductive ij (m:Oper) (t:Tmp) (rest:Code):List Code->Code->Prop where
 |here (id:Nat) (ops:Array Oper) (d:Oper) (args:Array Operand) (fc:Array TypeId):ops.toList=[m,d]->d.op=.defer ⟨.value (.tmp t),args,fc⟩->args.isEmpty=true->m.guard=none->d.guard=none->d.dst=none->ij m t rest [] (.seq (.region id ops false) rest)
 |step (a b:Code) (pre:List Code):ij m t rest pre b->ij m t rest (a::pre) (.seq a b)
theorem Y8 {d:Oper} {t:Tmp} (h:N8 d=some t):∃ args fc,d.op=.defer ⟨.value (.tmp t),args,fc⟩/\args.isEmpty=true/\d.guard=none/\d.dst=none:=by
 unfold N8 at h
 split at h
 .rename_i t' args fc aG
  split at h
  .rename_i hc
   cases h
   simp only [cY,Option.isNone_iff_eq_none] at hc
   exact ⟨args,fc,aG,hc.1.1,hc.1.2,hc.2⟩
  .cases h
 .cases h
theorem Z7:∀ (c:Code) (pre:List Code) (m:Oper) (t:Tmp) (rest:Code),uK c=some (pre,m,t,rest)->ij m t rest pre c:=by
 intro c
 induction c with
 |seq a b _ ga =>
  intro pre m t rest h
  have bV:∀ (a:Code),((uK b).map λ(pre,m,t,r)=>(a::pre,m,t,r))=some (pre,m,t,rest)->ij m t rest pre (.seq a b):=by
   intro a hm
   simp only [bS,Prod.exists,cd] at hm
   obtain ⟨Mq,m',t',r',hs,rfl,rfl,rfl,rfl⟩:=hm
   exact .step a b Mq (ga _ _ _ _ hs)
  unfold uK at h
  split at h
  .rename_i id ops b' heq
   cases heq
   split at h
   .rename_i m' d tS
    split at h
    .rename_i t' hd
     split at h
     .rename_i hg
      simp only [de,cd] at h
      obtain ⟨rfl,rfl,rfl,rfl⟩:=h
      obtain ⟨args,fc,h1,h2,h3,h4⟩:=Y8 hd
      exact .here id ops d args fc tS h1 h2 (by simpa using hg) h3 h4
     .exact bV _ h
    .exact bV _ h
   .exact bV _ h
  .rename_i a' b' _ heq
   cases heq
   exact bV _ h
  .cases h
 |_=>intro pre m t rest h;simp [uK] at h

theorem Y7 (hT:T.Fits P) {gs:List Nat} (hC:CS P gs C) (hg:oG C) 
 (hE:∀ (n0:Nat) (B:List Deferred) (c:Code) (e:Env) (h:Heap) (x:Ex) (e':Env) (h':Heap) (ρ:bU) (a:Act) (w:World) (Q:Exit->Act->World->Prop),E c e h=some (x,e',h')->bT ρ c->(true=true->jF c=true)->cf gs ρ->bj ρ h w->dL ρ h h'->bH ρ e a.tmps->Marks n0 B true ρ w a.defers->zF ρ none none->n0<=w.heap.size ->
  (∀ ρ' a' w',Fr ρ ρ' h h' w w'->bj ρ' h' w'->bH ρ' e' a'.tmps->Marks n0 B true ρ' w' a'.defers->Q x.to a' w')->c.wpIn (WR none) 0 P Q a w)
 (sD:∀ c e h x e' h',E c e h=some (x,e',h')->aT h h')
 {c:Code} {e:Env} {w:World} {tmps:Array ai} (tL:∀ g fg cg,T.fn g=some fg->fg.body=some cg->mT gs cg=true) (cE:bT ρ c) (hG:cf gs ρ) (hs:bj ρ h w) (hf:dL ρ h h') (he:bH ρ e tmps)
 (ab:wj P T E C fn c e h=some (v,h')) :
 c.wpIn Fence.wide 0 P (bodyPostM Fence.wide 0 P fn λed w'=>∃ ρ' u,ed=.returned u/\Fr ρ ρ' h h' w w'/\bj ρ' h' w'/\VR ρ' v u) { tmps,defers:=[] } w:=by
 have key:∀ (pre:List Code) (m:Oper) (t:Tmp) (rest:Code) (c:Code),ij m t rest pre c->∀ (e:Env) (h1:Heap) (ρ1:bU) (w1:World) (a:Act),pre.all jF=true->jF rest=true->bT ρ1 c->cf gs ρ1->bj ρ1 h1 w1->dL ρ1 h1 h'->bH ρ1 e a.tmps->a.defers=[]->Fr ρ ρ1 h h1 w w1 ->
  ((r7 E pre e h1).bind λ(e1,h1)=>(fp P T C e1 m h1).bind λ(v,h2) =>
    match E rest (put e1 m.dst v) h2 with
    |some (.ret,e3,h3)=>pG T E fn ((put e1 m.dst v).get t) e3 h3
    |some (.normal,e3,h3)=>pG T E fn ((put e1 m.dst v).get t) e3 h3
    |_=>none)=some (v,h') ->
  c.wpIn Fence.wide 0 P (bodyPostM Fence.wide 0 P fn λed w'=>∃ ρ' u,ed=.returned u/\Fr ρ ρ' h h' w w'/\bj ρ' h' w'/\VR ρ' v u) a w1:=by
  intro pre m t rest c bJ
  induction bJ with
  |step a0 b0 Xa _ ih =>
   intro e h1 ρ1 w1 a jw cq cE hG hs hf he hd cy ab
   simp only [kS,cY] at jw
   simp only [r7,bB,Prod.exists] at ab
   obtain ⟨e2,h2,hp,ab⟩:=ab
   split at hp
   .rename_i e3 h3 hr
    have nA:aT h3 h':=by
     obtain ⟨v2,h4,ho,ab⟩:=ab
     have k1:=Hz sD _ _ _ _ _ hp
     have k2:=yP hg ho
     split at ab
     .rename_i fj;exact ((k1.trans k2).trans (sD _ _ _ _ _ _ fj)).trans (yQ sD ab)
     .rename_i fj;exact ((k1.trans k2).trans (sD _ _ _ _ _ _ fj)).trans (yQ sD ab)
     .cases ab
    refine wpIn_seq ?_
    refine hE w1.heap.size [] a0 e h1 .normal e3 h3 ρ1 a w1 _ hr cE.1 (λ_=>jw.1) hG hs (hf.left nA.size) he (by rw [hd];exact Marks.nil) trivial (bg _) λρ2 a2 w2 f2 s2 r2 d2=>?_
    obtain ⟨rs,m1,_,m2,_⟩:=d2
    rw [m2 rfl] at m1
    refine ih e3 h3 ρ2 w2 a2 jw.2 cq (cE.2.mono f2.grow) (hG.mono f2.grow) s2 (hf.right f2) r2 (by simpa using m1) (cy.trans f2) ?_
    simp only [bB,Prod.exists]
    exact ⟨e2,h2,hp,ab⟩
   .cases hp
  |here id ops d args fc tS aG dh Wf G7 K0 =>
   intro e h1 ρ1 w1 a _ cq cE hG hs hf he hd cy ab
   simp only [r7,bB,Prod.exists,de,cd] at ab
   obtain ⟨e1,b8,⟨rfl,rfl⟩,v1,h2,ho,ab⟩:=ab
   have gz:aT h2 h':=by
    split at ab
    .rename_i fj;exact (sD _ _ _ _ _ _ fj).trans (yQ sD ab)
    .rename_i fj;exact (sD _ _ _ _ _ _ fj).trans (yQ sD ab)
    .cases ab
   refine wpIn_seq (wpIn_region_list ?_)
   rw [tS]
   have LM:il ρ1 m:=cE.1 m (by rw [tS];simp)
   have Hi:Region.wanted m (yielded ops a.tmps)=true:=by simp [Region.wanted,Wf]
   rw [wpListIn,aC Hi]
   have rD:=Ar hT hC hG hs he LM (hf.left gz.size) ho
   refine rD.wp (rl:=none) (Ak ho) λρ2 u w2 f2 s2 v2=>?_
   have G8:bH ρ2 (put e m.dst v1) (a.put m.dst u).tmps:=(he.mono f2.grow).put v2 m.dst
   have fW:(a.put m.dst u).defers=[]:=by cases m.dst <;> exact hd
   have WM:Region.wanted d (yielded ops (a.put m.dst u).tmps)=true:=by simp [Region.wanted,G7]
   rw [wpListIn,aC WM]
   have xS:=G8.2 t
   have xW:∃ x e3 h3,(x=Ex.ret\/x=.normal)/\E rest (put e m.dst v1) h2=some (x,e3,h3)/\pG T E fn ((put e m.dst v1).get t) e3 h3=some (v,h'):=by
    split at ab
    .rename_i e3 h3 fj;exact ⟨_,e3,h3,.inl rfl,fj,ab⟩
    .rename_i e3 h3 fj;exact ⟨_,e3,h3,.inr rfl,fj,ab⟩
    .cases ab
   obtain ⟨x,e3,h3,hx,fj,cO⟩:=xW
   unfold pG at cO
   split at cO
   .rename_i g fi ca nz
    rw [nz] at xS
    generalize KU:(a.put m.dst u).tmps.getD t undef=ag at xS
    cases xS with
    |func _ q1 q2 q3 q4 =>
     rename_i u7 u4
     have pY:bQ ρ2 fi.toList u7.toList:=⟨by simpa using q1,λi x y hx hy=>q3 i x y (by simpa using hx) (by simpa using hy)⟩
     have o7:bQ ρ2 ca.toList u4.toList:=⟨by simpa using q2,λi x y hx hy=>q4 i x y (by simpa using hx) (by simpa using hy)⟩
     simp only [bB] at cO
     obtain ⟨fg,Dn,cg,G5,cO⟩:=cO
     split at cO
     .rename_i ju
      have Vu:(a.put m.dst u).eval (.tmp t)=.func (.func g) u7 u4:=KU
      have gS:(execOp (a.put m.dst u).eval d).run P w2=.ok (.defer { target:=.fn (.func g) u4,args:=u7 }) w2:=by
       have xr:args=#[]:=by simpa using dh
       simp [execOp,aG,resolve,Vu,Deferred.ofValue,xr]
      refine ⟨λfq hq=>trivial,?_⟩
      rw [show Oper.semAt Fence.wide.round (a.put m.dst u).eval d=execOp (a.put m.dst u).eval d from rfl,gS]
      simp only [Oper.uponIn,wpListIn,K0,fW]
      have nA:aT h3 h':=yQ sD (show pG T E fn (.func (.func g) fi ca) e3 h3=some (v,h') by unfold pG;simp only [Dn,cM,G5,ju,if_true];exact cO)
      refine hE w2.heap.size [{ target:=.fn (.func g) u4,args:=u7 }] rest _ _ _ _ _ ρ2 _ w2 _ fj (cE.2.mono f2.grow) (λ_=>cq) (hG.mono f2.grow) s2 ((hf.right f2).left nA.size) G8 Marks.nil trivial (bg _) λρ3 a3 w3 f3 s3 r3 d3=>?_
      obtain ⟨rs,m1,_,m2,_⟩:=d3
      rw [m2 rfl] at m1
      have W4:a3.defers=[{ target:=.fn (.func g) u4,args:=u7 }]:=by simpa using m1
      have hl:LeavesInM Fence.wide 0 P fn a3.tmps (λed w'=>∃ ρ' u,ed=.returned u/\Fr ρ ρ' h h' w w'/\bj ρ' h' w'/\VR ρ' v u) a3.defers .returning w3:=by
       rw [W4]
       obtain ⟨PX,fK,_⟩:=hT.fn g fg Dn
       have dU:¬ fg.name="runtime.NumGoroutine":=by simpa using fK
       refine ⟨by simp,.inr ⟨(λhh=>by cases hh),_,_,g,u7++u4,rfl,?_,λ_ _=>trivial,?_⟩⟩
       .show (callFunc g (u7++u4)).run P w3=_
        simp [callFunc,PX,dU,G5]
       .have eo:bQ ρ3 (fi.toList++ca.toList) (u7++u4).toList:=by
         have:=(pY.append o7).mono f3.grow
         simpa using this
        have VL:=bH.enter eo fg.ntmps
        have DU:∃ y e4 h4 vg,(y=Ex.ret\/y=.normal)/\E cg ((fi.toList++ca.toList)++List.replicate (fg.ntmps - (fi.toList++ca.toList).length) undef) h3=some (y,e4,h4)/\jH T fg e4 h4=some vg/\jH T fn e3 h4=some v/\h4=h':=by
         split at cO
         .rename_i e4 h4 DT
          simp only [bB,bS,cd] at cO
          obtain ⟨vg,tZ,v',D5,rfl,rfl⟩:=cO
          exact ⟨_,e4,h4,vg,.inl rfl,DT,tZ,D5,rfl⟩
         .rename_i e4 h4 DT
          simp only [bB,bS,cd] at cO
          obtain ⟨vg,tZ,v',D5,rfl,rfl⟩:=cO
          exact ⟨_,e4,h4,vg,.inr rfl,DT,tZ,D5,rfl⟩
         .cases cO
        obtain ⟨y,e4,h4,vg,hy,DT,tZ,WJ,rfl⟩:=DU
        refine (callsDIn_of_wp (R:=λed w'=>∃ u,ed=.returned u/\∃ vr,(results fn a3.tmps).run P w'=.ok vr w'/\∃ ρ' u',Ending.returned vr=.returned u'/\Fr ρ ρ' h h4 w w'/\bj ρ' h4 w'/\VR ρ' v u') PX G5 trivial ?_).mono ?_
        .refine hE w3.heap.size [] cg _ _ _ _ _ ρ3 _ w3 _ DT (.of (hG.mono (f2.trans f3).grow) (tL g fg cg Dn G5)) (λ_=>ju) (hG.mono (f2.trans f3).grow) s3 ((hf.right f2).right f3) VL Marks.nil trivial (bg _) λρ4 a4 w4 f4 s4 r4 d4=>?_
         obtain ⟨rs4,n1,_,n2,_⟩:=d4
         rw [n2 rfl] at n1
         have W5:a4.defers=[]:=by simpa using n1
         obtain ⟨ug,WG,_⟩:=MP hT s4 r4 tZ
         obtain ⟨uf,WE,Mb⟩:=MP hT s4 (r3.mono f4.grow) WJ
         have P8:a4.defers=[]/\∃ vv,(results fg a4.tmps).run P w4=.ok vv w4/\∃ u,Ending.returned vv=.returned u/\∃ vr,(results fn a3.tmps).run P w4=.ok vr w4/\∃ ρ' u',Ending.returned vr=.returned u'/\Fr ρ ρ' h h4 w w4/\bj ρ' h4 w4/\VR ρ' v u' :=
          ⟨W5,ug,WG,ug,rfl,uf,WE,ρ4,uf,rfl,((cy.trans f2).trans f3).trans f4,s4,Mb⟩
         rcases hy with rfl|rfl
         .exact P8
         .exact P8
        .rintro ed u' w' ⟨rfl,uu,rfl,vr,ub,hR⟩
         exact ⟨vr,ub,hR⟩
      rcases hx with rfl|rfl
      .exact hl
      .exact hl
     .cases cO
   .cases cO
 unfold wj at ab
 simp only [bB,Prod.exists] at ab
 obtain ⟨pre,m,t,rest,bJ,ab⟩:=ab
 split at ab
 .rename_i ju
  simp only [cY] at ju
  exact key pre m t rest c (Z7 _ _ _ _ _ bJ) e h ρ w _ ju.1 ju.2 cE hG hs hf he rfl (Fr.refl _ _ _) ab
 .cases ab

theorem M7 (ix:P.follows .mixedOrders=true) (hT:T.Fits P) (lK:uV P T.gs ov):∀ n,CS P T.gs (call P T ov n)
 |0=>by
  refine ⟨?_,?_⟩
  .intro f args h v h' ab;simp [call] at ab
  .intro f args h v h' ab;simp [call] at ab
 |n+1=>by
  have Eb:=M7 ix hT lK n
  have jR:=SG (T:=T) lK n
  have qW:=λ(rd rl:Option Nat) (n0:Nat)=>RH hT Eb jR (RI ix hT Eb jR) (yS jR) rd rl n0 [] false n
  have ri:=λ(rd:Option Nat)=>yR (P:=P) (T:=T) jR (yS (P:=P) (T:=T) jR) rd n
  refine ⟨?_,?_⟩
  .intro f args h v h' ab ρ w aB hG hs hf hv
   simp only [call] at ab
   split at ab
   .rename_i g hg
    exact (lK f g hg args h v h' ab).2 ρ w aB hG hs hf hv
   .simp only [bB] at ab
    obtain ⟨fn,oU,c,hc,ab⟩:=ab
    obtain ⟨hP,fK,cE⟩:=hT.fn f fn oU
    right
    refine ⟨?_,?_⟩
    .have dU:¬ fn.name="runtime.NumGoroutine":=by simpa using fK
     simp [callFunc,hP,dU,hc]
    .refine callsIn_wide.1 (callsIn_of_wp_marks (n:=0) hP hc trivial ?_)
     have he:=bH.enter hv fn.ntmps
     have go:∀ (x:Ex) (e:Env) (h2:Heap),x=.ret\/x=.normal->cT P T (call P T ov n) (mH P T (call P T ov n)) none n c (args++List.replicate (fn.ntmps - args.length) undef) h=some (x,e,h2) ->
      (jH T fn e h2).map (λv=>(v,h2))=some (v,h')->c.wpIn Fence.wide 0 P (bodyPostM Fence.wide 0 P fn λed w'=>∃ ρ' u,ed=.returned u/\Fr ρ ρ' h h' w w'/\bj ρ' h' w'/\VR ρ' v u) { tmps:=aB++Array.replicate (fn.ntmps - aB.size) undef,defers:=[] } w:=by
      intro x e h2 hx hr gS
      simp only [bS,cd] at gS
      obtain ⟨v',gS,rfl,rfl⟩:=gS
      refine qW none none w.heap.size c _ _ _ _ _ ρ _ w _ hr (.of hG (cE c hc)) (λq=>by cases q) hG hs hf he Marks.nil trivial (bg _) λρ' a' w' f1 s1 e1 d1=>?_
      obtain ⟨rs,m1,m2,_,m3⟩:=d1
      rw [cU] at m1
      have hl:LeavesInM Fence.wide 0 P fn a'.tmps (λed w'=>∃ ρ' u,ed=.returned u/\Fr ρ ρ' h h2 w w'/\bj ρ' h2 w'/\VR ρ' v' u) a'.defers .returning w':=by
       rw [m1]
       refine R7 rs w' m2 m3 s1 λw2 s2 q1 q2 q3 q4 q5=>?_
       obtain ⟨u,hu,jQ⟩:=MP hT s2 e1 gS
       refine ⟨u,hu,ρ',u,rfl,⟨f1.grow,f1.fresh,q1.trans f1.os,q2.trans f1.tape,q3.trans f1.output,by rw [q4];exact f1.size,f1.eY,f1.low,λb hb aq=>?_,f1.n6⟩,s2,jQ⟩
       exact (q5 b (.inl hb)).trans (f1.keep b hb aq)
      rcases hx with rfl|rfl
      .exact hl
      .exact hl
     split at ab
     .exact Y7 hT Eb jR (λn0 B c e h x e' h' ρ a w Q=>RH hT Eb jR (RI ix hT Eb jR) (yS jR) none none n0 B true n c e h x e' h' ρ a w Q) (λc e h x e' h' hr=>ri none c e h x e' h' hr) (λg fg cg h1 h2=>(hT.fn g fg h1).2.2 cg h2) (.of hG (cE c hc)) hG hs hf he ab
     split at ab
     .rename_i e h2 hr;exact go .ret e h2 (.inl rfl) hr ab
     .rename_i e h2 hr;exact go .normal e h2 (.inr rfl) hr ab
     .cases ab
  .intro A args h v h' ab ρ w aB L hA hG hs hf hv
   simp only [call] at ab
   unfold wt at ab
   split at ab
   .rename_i env ps assign body st dW hg
    split at ab
    .rename_i hlen
     split at ab
     .rename_i e1 h1 tU
      split at ab
      .rename_i nh yF kW qp gW Dt
       obtain ⟨lo,l1,l2,l3,l4,l5,l6,l7,l8,l9,_⟩:=F1 hs hA hg
       have Dg:args.length=aB.size:=by simpa using hv.1
       have rA:lo.params.size=ps.length:=by rw [<- l4];simp
       refine ⟨lo.fn,(lo.params.zip aB).foldl (λtmps (t,a)=>tmps.setIfInBounds t a) lo.tmps,lo.assign,lo.body,?_,?_⟩
       .simp only [Instr.yield,Sem.run_bind,run_getLoop l1,Result.andThen_ok]
        rw [ay (by omega)]
        simp
       .have key:∀ (x:Ex) (e2:Env) (h2:Heap) (jump:Option Code),cT P T (call P T ov n) (mH P T (call P T ov n)) (some A) n body e1 (h1.set A (.loop nh yF kW qp .busy gW))=some (x,e2,h2) ->
         (jump=match x with | .normal=>none | .ret=>some .ret | .exit id=>some (.exit id))->vU A jump h2=some (v,h')->RoundIn Fence.wide 0 P L.b lo.fn ((lo.params.zip aB).foldl (λtmps (t,a)=>tmps.setIfInBounds t a) lo.tmps) lo.assign lo.body w λed w'=>∃ ρ' u,ed=.returned u/\Fr ρ ρ' h h' w w'/\bj ρ' h' w'/\VR ρ' v u:=by
         intro x e2 h2 jump fj rf gx
         have k1:=ri (some A) _ _ _ _ _ _ tU
         have k2:=ri (some A) _ _ _ _ _ _ fj
         have k3:=HB gx
         have s1:=k2.size
         have s2:=k3.size
         rw [Heap.size_set] at s1
         refine roundIn_of_wpIn (F:=Fence.wide) trivial ?_
         have K3:bH ρ (fM env ps args) ((lo.params.zip aB).foldl (λtmps (t,a)=>tmps.setIfInBounds t a) lo.tmps):=by
          have:=bH.fM ps args aB.toList env lo.tmps l7 hv
          rw [<- Array.foldl_toList,Array.toList_zip,l4]
          exact this
         rw [l5]
         refine qW (some A) (some L.b) w.heap.size assign _ _ _ _ _ ρ _ w _ tU l8 (λq=>by cases q) hG hs (hf.left (by omega)) K3 Marks.nil ⟨L,hA,rfl⟩ (bg _) λρ1 a1 w1 f1 Xg Vd d1=>?_
         have j5:=f1.grow A L hA
         obtain ⟨QA,p1,p2,p3,p4,p5,p6,p7,p8,p9,W9⟩:=F1 Xg j5 Dt
         obtain ⟨f2,QE⟩:=W9 .busy gW
         have Lu:({ QA with state:=LoopState.busy,pending:=gW }:Loop)={ QA with state:=LoopState.busy }:=by subst p3;rfl
         rw [Lu] at f2 QE
         refine ⟨_,run_beginRound p1 p2,?_⟩
         rw [l6]
         refine qW (some A) (some L.b) w.heap.size body _ _ _ _ _ ρ1 a1 _ _ fj (l9.mono f1.grow) (λq=>by cases q) (hG.mono f1.grow) QE ?_ Vd (d1.step f2) ⟨L,j5,rfl⟩ (iG f1.size f2.size) λρ3 a3 w3 f3 Xh en3 d3=>?_
         .have cy:dL ρ1 h1 h2:=((hf.left (by omega)).right f1)
          exact cy
         .have zL:=f3.grow A L j5
          unfold vU at gx
          split at gx
          .rename_i CV QC n7 uW Xj QB VP
           cases gx
           obtain ⟨yC,z1,z2,z3,z4,z5,z6,z7,z8,z9,Xo⟩:=F1 Xh zL VP
           obtain ⟨f4,Xi⟩:=Xo (if jump.isNone then .ready else .done) jump
           have nx:∃ ρ' u,Ending.returned (.bool jump.isNone)=.returned u/\Fr ρ ρ' h (h2.set A (.loop CV QC n7 uW (if jump.isNone then .ready else .done) jump)) w (w3.putObj L.b (.loop { yC with state:=if jump.isNone then .ready else .done,pending:=jump })) /\
            bj ρ' (h2.set A (.loop CV QC n7 uW (if jump.isNone then .ready else .done) jump)) (w3.putObj L.b (.loop { yC with state:=if jump.isNone then .ready else .done,pending:=jump }))/\VR ρ' (.bool jump.isNone) u :=
            ⟨ρ3,_,rfl,((f1.trans f2).trans f3).trans f4,Xi,.bool _⟩
           have cW:=run_endRound (P:=P) jump z1
           cases x with
           |normal=>subst rf;exact ⟨_,_,cW,nx⟩
           |ret=>subst rf;exact ⟨_,_,cW,nx⟩
           |exit id=>subst rf;exact ⟨_,_,cW,nx⟩
          .cases gx
        split at ab
        .rename_i e2 h2 fj;exact key _ _ _ _ fj rfl ab
        .rename_i e2 h2 fj;exact key _ _ _ _ fj rfl ab
        .rename_i e2 h2 fj;exact key _ _ _ _ fj rfl ab
        .cases ab
      .cases ab
     .cases ab
    .cases ab
   .cases ab

theorem Fr.below {ρ':bU} {w w':World} (f:Fr ρ ρ' h h' w w') (js:∀ A L,ρ A=some L->A < h'.low):Below w.heap.size w w' :=
 ⟨f.os,f.tape,f.output,f.size,λk hk=>f.keep k hk λA L hA _=>.inl (js A L hA)⟩

theorem ztx (ix:P.follows .mixedOrders=true) (hT:T.Fits P) (lK:uV P T.gs ov) {n:Nat} {f:FuncId} {b:Bool} (hf:ov f=none) (cW:call P T ov n (.func f) [] h=some (.bool b,h')) (w:World) (ρ:bU)
 (hG:cf T.gs ρ) (hs:bj ρ h w) (bn:∀ A,h.size<=A->ρ A=none) (js:∀ A L,ρ A=some L->A < h'.low) :
 Calls P f #[] w λe w'=>e=.returned (.bool b)/\Below w.heap.size w w':=by
 have nt:=(M7 ix hT lK n).fn f [] h (.bool b) h' cW ρ w #[] hG hs (λA h1 _=>bn A h1) (.nil _)
 rcases nt with ⟨ρ',u,w',h1,_⟩|⟨_,h1⟩
 .exfalso
  cases n with
  |zero=>simp [call] at cW
  |succ n =>
   simp only [call,hf,bB] at cW
   obtain ⟨fn,oU,c,hc,_⟩:=cW
   obtain ⟨hP,fK,_⟩:=hT.fn f fn oU
   have dU:¬ fn.name="runtime.NumGoroutine":=by simpa using fK
   simp [callFunc,hP,dU,hc] at h1
 .refine h1.mono ?_
  rintro e w' ⟨ρ',u,rfl,f1,s1,hv⟩
  refine ⟨?_,f1.below js⟩
  rw [hv.bc rfl]
end
end Go.Am
