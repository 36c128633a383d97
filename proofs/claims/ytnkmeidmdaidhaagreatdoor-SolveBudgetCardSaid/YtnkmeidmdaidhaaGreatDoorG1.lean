/- A region that draws its order: the plain machine goes by the text; what it comes to does not hang on the order. No condition. -/
import Derived.Test.YtnkmeidmdaidhaaGreatDoorG0
import Derived.Orders
import Derived.OrdersIn
set_option linter.unusedSimpArgs false
namespace Go.Am
open Go.RowKit

def Ue (T:bx):List TypeId->Bool
 |t::_=>(match T.desc t with|some (.map _ _)=>false|_=>true)
 | []=>true
def nV (T:bx) (o:Oper):Bool :=
 match o.op with
 | .move _ | .assign _ | .pick _ _ _ | .build _ _ | .nilCheck _ | .binOp _ _ _ _ _ | .makeFunc _ _ _ | .slice _ _ _ _ _ | .fieldAddr _ _ _ | .field _ _ _ | .indexAddr _ _ _ | .extract _ _ | .unOp _ _ _ | .index _ _ _ | .makeInterface _ _ | .typeAssert _ _ _ _=>true
 | .convert s d _ => !qv T s && !qv T d
 | .call c=>match c.callee with
  | .builtin .len=>Ue T c.argTypes.toList
  | .builtin .min | .builtin .max | .builtin .cap=>true
  |_=>false
 |_=>false

section
variable (P:Program) (T:bx) (C:Fn->List ai->Heap->Option (ai × Heap))

def iJ (o:Oper) (e:Env) (h h':Heap):Nat :=
 if nV T o then 0 else if h.size<=h'.low then (match o.op with
  | .load _ a=>(match br e a with
   | .pointer (some x)=>3+3*x.block
   |_=>1)
  | .buildSlice _ _ _=>4+3*h.size
  |_=>1)
 else (match o.op with
  | .store _ a _=>(match br e a with
   | .pointer (some x)=>5+3*x.block
   |_=>2)
  |_=>2)
def oD (ops:Array Oper):List Oper->Env->Heap->Option (List Nat × Env × Heap)
 | [],e,h=>some ([],e,h)
 |o::r,e,h =>
  if kU ops o e then
   match gq P T C e o { h with low:=h.size } with
   |some (v,h')=>(oD ops r (put e o.dst v) { h' with low:=min h.low h'.low }).map λ(ks,x)=>(iJ T o e h h'::ks,x)
   |none=>none
  else (oD ops r (put e o.dst undef) h).map λ(ks,x)=>(0::ks,x)

def MG (acc:List Nat) (o:Oper):Nat:=o.after.toList.foldl (λs e=>if Region.binds .any e then s ||| 2 ^ e.on ||| acc.getD e.on 0 else s) 0
def kV:List Oper->List Nat->List Nat
 | [],acc=>acc
 |o::r,acc=>kV r (acc++[MG acc o])
def lE (a b:Nat):Bool:=a == 0 || b == 0 || (a % 3 != 2 && b % 3 != 2) || (Nat.ble 5 b && b % 3 == 2 && Nat.ble 3 a && ((a % 3 == 0 && a+2 != b) || (a % 3 == 1 && Nat.ble (b+2) a)))
def EH (ops:Array Oper) (ks ms:List Nat) (j:Nat):Bool :=
 match ops[j]? with
 |some oj=>oj.after.toList.all (λe => !Region.binds .any e || decide (e.on < j)) &&
  (List.range j).all λi=>(ms.getD j 0).testBit i || (match ops[i]? with
   |some oi=>oi.apart ops oj && lE (ks.getD i 2) (ks.getD j 2)
   |none=>true)
 |none=>true
def Da (ops:Array Oper) (ks ms:List Nat):Bool:=(List.range ops.size).all (EH ops ks ms)

def nX (ops:Array Oper) (e:Env) (h:Heap):Option (Env × Heap) :=
 match oD P T C ops ops.toList e h with
 |some (ks,e',h')=>if Da ops ks (kV ops.toList []) then some (e',h') else none
 |none=>none
end

section
variable {P:Program} {T:bx} {C:Fn->List ai->Heap->Option (ai × Heap)}

theorem zsC {t:TypeId} {x:ai} {ts:List TypeId} (hb:Ue T (t::ts)=true) (h h2:Heap):bP T t x h=bP T t x h2:=by
 simp only [Ue] at hb
 unfold bP
 split at hb
 .cases hb
 .rename_i aO
  split
  all_goals first|rfl|(rename_i hd;exact (aO _ _ hd).elim)

theorem S0 {e:Env} {o:Oper} {h h':Heap} {v:ai} (hb:nV T o=true) (aj:gq P T C e o h=some (v,h')):h'=h/\∀ h2,gq P T C e o h2=some (v,h2):=by
 have cq:∀ {r:Option ai},(r.map λx=>(x,h))=some (v,h')->h'=h/\∀ h2:Heap,(r.map λx=>(x,h2))=some (v,h2):=by
  intro r hr
  simp only [bX,cx] at hr
  obtain ⟨_,rfl,rfl,rfl⟩:=hr
  exact ⟨rfl,λ_=>rfl⟩
 have dn:fB P e o h=some (v,h')->h'=h/\∀ h2,fB P e o h2=some (v,h2):=by
  intro hp
  unfold fB at hp ⊢
  split at hp
  .rename_i h1
   split at hp
   .rename_i h2
    split at hp
    .rename_i h3
     cases hp
     exact ⟨rfl,λ_=>by simp [h1,h3]⟩
    .cases hp
   .cases hp
  .cases hp
 obtain ⟨dst,op,ty,pos,after,guard⟩:=o
 cases op <;> simp only [nV,fF] at hb <;> simp only [gq] at aj ⊢
 case move x=>cases aj;exact ⟨rfl,λ_=>rfl⟩
 case assign x=>cases aj;exact ⟨rfl,λ_=>rfl⟩
 case pick c a b =>
  split at aj
  .cases aj;exact ⟨rfl,λ_=>rfl⟩
  .cases aj
 case build=>exact cq aj
 case nilCheck x =>
  split at aj
  .cases aj;exact ⟨rfl,λ_=>rfl⟩
  .cases aj;exact ⟨rfl,λ_=>rfl⟩
  .cases aj;exact ⟨rfl,λ_=>rfl⟩
  .cases aj
 case makeInterface=>exact cq aj
 case typeAssert=>exact cq aj
 case binOp=>exact cq aj
 case makeFunc fn f c =>
  split at aj
  .cases aj;exact ⟨rfl,λ_=>rfl⟩
  .cases aj
 case slice=>exact cq aj
 case fieldAddr=>exact cq aj
 case field=>exact cq aj
 case indexAddr=>exact cq aj
 case extract t i =>
  split at aj
  .exact cq aj
  .cases aj
 case unOp=>exact dn aj
 case convert s d x =>
  simp only [dj,yx] at hb
  rw [hb.1,hb.2] at aj ⊢
  exact dn aj
 case index=>exact dn aj
 case call c =>
  obtain ⟨callee,args,fY⟩:=c
  cases callee with
  |value f=>simp at hb
  |invoke r m=>simp at hb
  |builtin b =>
   cases b <;> simp at hb <;> simp only at aj ⊢
   case len =>
    split at aj
    .rename_i rj mg
     rw [rj] at hb
     obtain ⟨e1,e2⟩:=cq aj
     exact ⟨e1,λh2=>by rw [zsC hb h2 h];exact e2 h2⟩
    .cases aj
   case min=>exact dn aj
   case max=>exact dn aj
   case cap =>
    split at aj
    .exact cq aj
    .cases aj

theorem znr {e e':Env} {o:Oper} (h:Heap) (he:∀ x∈o.op.operands.toList,br e x=br e' x):gq P T C e o h=gq P T C e' o h:=by
 have dn:(∀ cs b,o.op≠.select cs b)->fB P e o h=fB P e' o h:=by
  intro Rn
  unfold fB
  have h1:execOp (br e) o=execOp (br e') o:=execOp_congr o Rn (λx hx=>he x (by simpa using hx))
  have h2:(o.op.operands.toList.all λx=>plain (br e x))=(o.op.operands.toList.all λx=>plain (br e' x)):=by
   rw [Bool.eq_iff_iff,gz,gz]
   exact ⟨λhh x hx=>by rw [<- he x hx];exact hh x hx,λhh x hx=>by rw [he x hx];exact hh x hx⟩
  rw [h1,h2]
 have ma:∀ (xs:List Operand),(∀ x∈xs,x∈o.op.operands.toList)->xs.map (br e)=xs.map (br e'):=λxs hx=>Dh λx mg=>he x (hx x mg)
 unfold gq
 dsimp only
 split
 .rename_i x aN;rw [he x (by simp [aN,Op.operands])]
 .rename_i x aN;rw [he x (by simp [aN,Op.operands])]
 .rename_i c a b aN;rw [he c (by simp [aN,Op.operands]),he a (by simp [aN,Op.operands]),he b (by simp [aN,Op.operands])]
 .rfl
 .rename_i t x aN;rw [he x (by simp [aN,Op.operands])]
 .rename_i t ps aN
  rw [Dh (g:=λ(p:Nat × Operand)=>(p.1,br e' p.2)) λp hp=>by rw [he p.2 (by simp [aN,Op.operands];exact ⟨p.1,by simpa using hp⟩)]]
 .rename_i t n ps aN
  rw [Dh (g:=λ(p:Nat × Operand)=>(p.1,br e' p.2)) λp hp=>by rw [he p.2 (by simp [aN,Op.operands];exact ⟨p.1,by simpa using hp⟩)]]
 .rename_i t x aN;rw [he x (by simp [aN,Op.operands])]
 .rename_i t a x aN;rw [he a (by simp [aN,Op.operands]),he x (by simp [aN,Op.operands])]
 .rename_i x aN;rw [he x (by simp [aN,Op.operands])]
 .rename_i op t x y yt aN;rw [he x (by simp [aN,Op.operands]),he y (by simp [aN,Op.operands])]
 .rename_i fn f c aN
  have h1:=ma f.toList (λx hx=>by simp [aN,Op.operands];left;simpa using hx)
  have h2:=ma c.toList (λx hx=>by simp [aN,Op.operands];right;simpa using hx)
  have h3:f.map (br e)=f.map (br e'):=by apply Array.ext';simpa using h1
  have h4:c.map (br e)=c.map (br e'):=by apply Array.ext';simpa using h2
  rw [h3,h4]
 .rename_i t l c aN;rw [he l (by simp [aN,Op.operands]),he c (by simp [aN,Op.operands])]
 .rename_i t x l hi m aN
  have BN:∀ (y:Option Operand),(∀ z,y=some z->z∈o.op.operands.toList)->y.map (br e)=y.map (br e'):=by
   intro y hy
   cases y with
   |none=>rfl
   |some z=>simp [he z (hy z rfl)]
  rw [he x (by simp [aN,Op.operands]),BN l (λz hz=>by subst hz;simp [aN,Op.operands]),BN hi (λz hz=>by subst hz;simp [aN,Op.operands]),BN m (λz hz=>by subst hz;simp [aN,Op.operands])]
 .rename_i s x f aN;rw [he x (by simp [aN,Op.operands])]
 .rename_i t x f aN;rw [he x (by simp [aN,Op.operands])]
 .rename_i t x i aN;rw [he x (by simp [aN,Op.operands]),he i (by simp [aN,Op.operands])]
 .rename_i t i aN;rw [he t (by simp [aN,Op.operands])]
 .rename_i aN;exact dn (by simp [aN])
 .rename_i s d x aN;rw [he x (by simp [aN,Op.operands]),dn (by simp [aN])]
 .rename_i aN;exact dn (by simp [aN])
 .rename_i c aN
  obtain ⟨callee,args,fY⟩:=c
  dsimp only
  have ha:=ma args.toList (λx hx=>by simp [aN,Op.operands,Call.operands];right;simpa using hx)
  have eD:∀ x∈args.toList,br e x=br e' x:=λx hx=>he x (by simp [aN,Op.operands,Call.operands];right;simpa using hx)
  split
  .split
   .rename_i h1 h2;rw [eD _ (by rw [h2];simp),eD _ (by rw [h2];simp)]
   .rfl
  .split
   .rename_i h1 h2;rw [eD _ (by rw [h2];simp),eD _ (by rw [h2];simp)]
   .rfl
  .split
   .rename_i h1 h2;rw [eD _ (by rw [h2];simp)]
   .rfl
  .split
   .rename_i h1 h2;rw [eD _ (by rw [h2];simp)]
   .rfl
  .exact dn (by simp [aN])
  .exact dn (by simp [aN])
  .split
   .rename_i h1 h2;rw [eD _ (by rw [h2];simp),eD _ (by rw [h2];simp)]
   .rfl
  .split
   .rename_i h1 h2;rw [eD _ (by rw [h2];simp)]
   .rfl
  .rename_i rv name
   rw [he rv (by simp [aN,Op.operands,Call.operands]),ha]
  .rename_i f
   rw [he f (by simp [aN,Op.operands,Call.operands]),ha]
  .rfl
 .rename_i t r aN
  cases r with
  |none=>rfl
  |some x=>simp only;rw [he x (by simp [aN,Op.operands])]
 .rename_i t x k ok aN;rw [he x (by simp [aN,Op.operands]),he k (by simp [aN,Op.operands])]
 .rename_i t m k x aN;rw [he m (by simp [aN,Op.operands]),he k (by simp [aN,Op.operands]),he x (by simp [aN,Op.operands])]
 .rename_i t m k x aN;rw [he m (by simp [aN,Op.operands]),he k (by simp [aN,Op.operands]),he x (by simp [aN,Op.operands])]
 .rename_i t m k aN;rw [he m (by simp [aN,Op.operands]),he k (by simp [aN,Op.operands])]
 .rename_i t m k x aN;rw [he m (by simp [aN,Op.operands]),he k (by simp [aN,Op.operands]),he x (by simp [aN,Op.operands])]
 .rename_i t x aN;rw [he x (by simp [aN,Op.operands])]
 .rename_i x xt t ok aN;rw [he x (by simp [aN,Op.operands])]
 .rfl
end
end Go.Am
namespace Go.Am
open Go.RowKit

section
variable {P:Program} {T:bx} {C:Fn->List ai->Heap->Option (ai × Heap)}

def eb (P:Program) (T:bx) (C:Fn->List ai->Heap->Option (ai × Heap)) (ops:Array Oper) (o:Oper) (e e1:Env) (h h1:Heap) (v:ai) (k:Nat):Prop :=
 (kU ops o e=true/\∃ h2,gq P T C e o { h with low:=h.size }=some (v,h2)/\h1={ h2 with low:=min h.low h2.low }/\e1=put e o.dst v/\k=iJ T o e h h2) \/
 (kU ops o e=false/\v=undef/\h1=h/\e1=put e o.dst undef/\k=0)

theorem zrD {ops:Array Oper}:∀ (l:List Oper) (e e':Env) (h h':Heap) (ks:List Nat),oD P T C ops l e h=some (ks,e',h') ->
 ∃ (E:Nat->Env) (H:Nat->Heap) (V:Nat->ai),E 0=e/\H 0=h/\E l.length=e'/\H l.length=h'/\ks.length=l.length /\
   ∀ i o,l[i]? = some o->eb P T C ops o (E i) (E (i+1)) (H i) (H (i+1)) (V i) (ks.getD i 2)
 | [],e,e',h,h',ks,aj=>by
  simp only [oD,dy,cx] at aj
  obtain ⟨rfl,rfl,rfl⟩:=aj
  exact ⟨λ_=>e,λ_=>h,λ_=>undef,rfl,rfl,rfl,rfl,rfl,λi o hi=>by simp at hi⟩
 |o::l,e,e',h,h',ks,aj=>by
  have glue:∀ (e1:Env) (h1:Heap) (v:ai) (k:Nat) (dD:List Nat),oD P T C ops l e1 h1=some (dD,e',h')->eb P T C ops o e e1 h h1 v k->ks=k::dD ->
   ∃ (E:Nat->Env) (H:Nat->Heap) (V:Nat->ai),E 0=e/\H 0=h/\E (o::l).length=e'/\H (o::l).length=h'/\ks.length=(o::l).length /\
     ∀ i o',(o::l)[i]? = some o'->eb P T C ops o' (E i) (E (i+1)) (H i) (H (i+1)) (V i) (ks.getD i 2):=by
   intro e1 h1 v k dD hr dh hk
   obtain ⟨E,H,V,bW,cK,sT,KU,h5',h6'⟩:=zrD l e1 e' h1 h' dD hr
   subst hk
   refine ⟨λn=>match n with|0=>e|n+1=>E n,λn=>match n with|0=>h|n+1=>H n,λn=>match n with|0=>v|n+1=>V n,rfl,rfl,sT,KU,by simp [h5'],?_⟩
   intro i o' hi
   cases i with
   |zero =>
    simp only [EO,dy] at hi
    subst hi
    simp only [bW,cK,List.getD_cons_zero]
    exact dh
   |succ i =>
    have:=h6' i o' (by simpa using hi)
    simpa using this
  simp only [oD] at aj
  split at aj
  .rename_i hw
   split at aj
   .rename_i v h2 hr
    simp only [bX,Prod.exists,cx] at aj
    obtain ⟨dD,x1,x2,cv,hk,rfl,rfl⟩:=aj
    exact glue _ _ v _ dD cv (.inl ⟨hw,h2,hr,rfl,rfl,rfl⟩) hk.symm
   .cases aj
  .rename_i hw
   simp only [bX,Prod.exists,cx] at aj
   obtain ⟨dD,x1,x2,cv,hk,rfl,rfl⟩:=aj
   exact glue _ _ undef _ dD cv (.inr ⟨by simpa using hw,rfl,rfl,rfl,rfl⟩) hk.symm

theorem S6:∀ (l:List Oper) (acc:List Nat) (k:Nat),k < acc.length->(kV l acc).getD k 0=acc.getD k 0
 | [],acc,k,_=>rfl
 |o::l,acc,k,hk=>by
  rw [kV,S6 l _ k (by simp;omega)]
  simp [kY hk]
theorem Uf:∀ (l:List Oper) (acc:List Nat) (t:Nat) (o:Oper),l[t]? = some o->∃ oL:List Nat,oL.length=acc.length+t/\(kV l acc).getD (acc.length+t) 0=MG oL o/\∀ k,k < acc.length+t->oL.getD k 0=(kV l acc).getD k 0
 | [],acc,t,o,h=>by simp at h
 |o'::l,acc,0,o,h=>by
  simp only [EO,dy] at h
  subst h
  refine ⟨acc,rfl,?_,λk hk=>?_⟩
  .rw [kV,gw,S6 l _ acc.length (by simp)]
   simp
  .rw [kV,S6 l _ k (by simp;omega)]
   simp [kY (show k < acc.length by omega)]
 |o'::l,acc,t+1,o,h=>by
  obtain ⟨oL,h1,h2,h3⟩:=Uf l (acc++[MG acc o']) t o (by simpa using h)
  simp only [dx,j9] at h1 h2 h3
  rw [show acc.length+(t+1)=acc.length+1+t by omega]
  exact ⟨oL,h1,h2,h3⟩

theorem ZT {acc:List Nat} {o:Oper} {i:Nat} (h:(MG acc o).testBit i=true):∃ e∈o.after.toList,Region.binds .any e=true/\(i=e.on\/(acc.getD e.on 0).testBit i=true):=by
 have key:∀ (l:List Edge) (s:Nat),(l.foldl (λs e=>if Region.binds .any e then s ||| 2 ^ e.on ||| acc.getD e.on 0 else s) s).testBit i=true ->
  s.testBit i=true\/∃ e∈l,Region.binds .any e=true/\(i=e.on\/(acc.getD e.on 0).testBit i=true):=by
  intro l
  induction l with
  |nil=>intro s hs;exact .inl hs
  |cons e l ih =>
   intro s hs
   rw [rL] at hs
   rcases ih _ hs with h1|⟨e',h1,h2,h3⟩
   .split at h1
    .rename_i hb
     rw [Nat.testBit_or,Nat.testBit_or,qH,qH] at h1
     rcases h1 with (h1|h1)|h1
     .exact .inl h1
     .rw [Nat.testBit_two_pow] at h1
      exact .inr ⟨e,by simp,hb,.inl (of_decide_eq_true h1).symm⟩
     .exact .inr ⟨e,by simp,hb,.inr h1⟩
    .exact .inl h1
   .exact .inr ⟨e',by simp [h1],h2,h3⟩
 rcases key _ 0 h with h1|h1
 .simp at h1
 .exact h1

theorem znK {ops:Array Oper} {S:Nat->Prop} (lV:∀ (j:Nat) (o:Oper),ops[j]? = some o->∀ e∈o.after.toList,Region.binds .any e=true->e.on < j)
 (kp:∀ (j:Nat) (o:Oper),ops[j]? = some o->S j->∀ e∈o.after.toList,Region.binds .any e=true->S e.on) :
 ∀ (n j:Nat) (o:Oper) (i:Nat),j<=n->ops[j]? = some o->(∀ e∈o.after.toList,Region.binds .any e=true->S e.on)->((kV ops.toList []).getD j 0).testBit i=true->S i:=by
 intro n
 induction n with
 |zero =>
  intro j o i hj ho hd hb
  obtain ⟨oL,h1,h2,h3⟩:=Uf ops.toList [] j o (by simpa using ho)
  simp only [cW,ia] at h1 h2 h3
  rw [h2] at hb
  obtain ⟨e,he,fO,_⟩:=ZT hb
  have:=lV j o ho e he fO
  omega
 |succ n ih =>
  intro j o i hj ho hd hb
  obtain ⟨oL,h1,h2,h3⟩:=Uf ops.toList [] j o (by simpa using ho)
  simp only [cW,ia] at h1 h2 h3
  rw [h2] at hb
  obtain ⟨e,he,fO,hi⟩:=ZT hb
  have aW:=lV j o ho e he fO
  have hS:=hd e he fO
  rcases hi with rfl|hi
  .exact hS
  .rw [h3 e.on aW] at hi
   have DT:j < ops.size:=(kX.1 ho).1
   have Xl:ops[e.on]? = some (ops[e.on]'(by omega)):=EM _
   exact ih e.on _ i (by omega) Xl (kp e.on _ Xl hS) hi

def eS (e0:Env) (dst:Nat->Option Tmp) (V:Nat->ai) (S:Nat->Bool):Nat->Env
 |0=>e0
 |k+1=>if S k then put (eS e0 dst V S k) (dst k) (V k) else eS e0 dst V S k

theorem Kh {e0:Env} {dst:Nat->Option Tmp} {V:Nat->ai} {S:Nat->Bool} {k:Nat} (h:S k=true):eS e0 dst V S (k+1)=put (eS e0 dst V S k) (dst k) (V k):=by simp only [eS,h,if_true]
theorem EV {e0:Env} {dst:Nat->Option Tmp} {V:Nat->ai} {S:Nat->Bool} {k:Nat} (h:S k=false):eS e0 dst V S (k+1)=eS e0 dst V S k:=by simp only [eS,h,fF,if_false]
theorem Md (e:Env) (d:Option Tmp) (v:ai):(put e d v).length=e.length:=by cases d <;> simp [put,Env.length_set]
theorem CN (e0:Env) (dst:Nat->Option Tmp) (V:Nat->ai) (S:Nat->Bool):∀ k,(eS e0 dst V S k).length=e0.length
 |0=>rfl
 |k+1=>by
  simp only [eS]
  split
  .rw [Md,CN e0 dst V S k]
  .exact CN e0 dst V S k
theorem Eu {e:Env} {d:Option Tmp} {v:ai} {t:Nat} (h:d≠some t):(put e d v).get t=e.get t:=by
 cases d with
 |none=>rfl
 |some d=>simp only [put,Env.aM];rw [aA (λhh=>h (by rw [hh.1]))]
theorem Tb {e e':Env} (hl:e.length=e'.length) {d:Option Tmp} {v:ai} {t:Nat} (h:e.get t=e'.get t):(put e d v).get t=(put e' d v).get t:=by
 cases d with
 |none=>exact h
 |some d=>simp only [put,Env.aM,hl,h]

end
end Go.Am
namespace Go.Am
open Go.RowKit
variable {k:Nat} {v:ai} {h h' h1:Heap} {e e1:Env} {o:Oper} {ops:Array Oper} {t:TypeId}

theorem znb {p p':Nat->Bool}:∀ (l:List Nat),(∀ k∈l,p' k=true->p k=true)->(∃ x∈l,p x=true/\p' x=false)->l.countP p' < l.countP p
 | [],_,h=>by obtain ⟨x,hx,_⟩:=h;simp at hx
 |a::l,hle,h=>by
  have Xf:l.countP p'<=l.countP p:=List.countP_mono_left λk hk=>hle k (by simp [hk])
  obtain ⟨x,hx,hp,mO⟩:=h
  rw [Fb,Fb]
  rcases dg.1 hx with rfl|hx
  .simp only [hp,mO,if_true,fF,if_false]
   omega
  .have ih:=znb l (λk hk=>hle k (by simp [hk])) ⟨x,hx,hp,mO⟩
   by_cases ha:p' a=true
   .rw [aG ha,aG (hle a (by simp) ha)];omega
   .rw [aA ha];split <;> omega

section
variable {P:Program} {T:bx} {C:Fn->List ai->Heap->Option (ai × Heap)}

theorem Heap.jW (h:Heap) (x A:Nat):Heap.get { h with low:=x } A=h.get A:=rfl

theorem eb.keeps (hg:qB C) (hs:eb P T C ops o e e1 h h1 v k):bh h h1:=by
 rcases hs with ⟨_,h2,aj,rfl,_,_⟩|⟨_,_,rfl,_,_⟩
 .have hk:=CB hg aj
  exact ⟨hk.size,wk _ _,λA h3 h4=>hk.get A h3 (dU h4 (E4 _ _))⟩
 .exact .refl _
theorem zjf (hb:nV T o=true):iJ T o e h h'=0:=by unfold iJ;rw [aG hb]
theorem TE (hb:¬ nV T o=true) (hl:h.size<=h'.low):iJ T o e h h' % 3≠2/\iJ T o e h h'≠0 /\
 (iJ T o e h h'=1\/(∃ t a x,o.op=.load t a/\br e a=.pointer (some x)/\iJ T o e h h'=3+3*x.block)\/((∃ t n ps,o.op=.buildSlice t n ps)/\iJ T o e h h'=4+3*h.size)):=by
 unfold iJ
 rw [aA hb,aG hl]
 split
 .rename_i t a aN
  split
  .rename_i x hx
   exact ⟨by omega,by omega,.inr (.inl ⟨t,a,x,aN,hx,rfl⟩)⟩
  .exact ⟨by omega,by omega,.inl rfl⟩
 .rename_i t n ps aN
  exact ⟨by omega,by omega,.inr (.inr ⟨⟨t,n,ps,aN⟩,rfl⟩)⟩
 .exact ⟨by omega,by omega,.inl rfl⟩
theorem Mb (hb:¬ nV T o=true) (hl:¬ h.size<=h'.low):iJ T o e h h' % 3=2 /\
 (iJ T o e h h'=2\/∃ t a y x,o.op=.store t a y/\br e a=.pointer (some x)/\iJ T o e h h'=5+3*x.block):=by
 unfold iJ
 rw [aA hb,aA hl]
 split
 .rename_i t a y aN
  split
  .rename_i x hx
   exact ⟨by omega,.inr ⟨t,a,y,x,aN,hx,rfl⟩⟩
  .exact ⟨rfl,.inl rfl⟩
 .exact ⟨rfl,.inl rfl⟩
theorem MJ {a b:Nat} (ha:a % 3=2) (hk:lE a b=true):b=0:=by
 unfold lE at hk
 simp only [qH,dj,beq_iff_eq,bne_iff_ne] at hk
 omega
theorem zu0 {a b:Nat} (hb:b % 3=2) (hk:lE a b=true):a=0\/(5<=b/\((a % 3=0/\3<=a/\a+2≠b)\/(a % 3=1/\3<=a/\b+2<=a))):=by
 unfold lE at hk
 simp only [qH,dj,beq_iff_eq,bne_iff_ne,Nat.ble_eq] at hk
 omega
theorem eb.same (hg:qB C) (hs:eb P T C ops o e e1 h h1 v k) (DU:k % 3≠2):∀ A,A < h.size->h1.get A=h.get A:=by
 rcases hs with ⟨_,h2,aj,rfl,_,hk⟩|⟨_,_,rfl,_,_⟩
 .intro A hA
  by_cases hb:nV T o=true
  .rw [Heap.jW,(S0 hb aj).1];rfl
  .by_cases hl:h.size<=h2.low
   .exact (CB hg aj).get A hA (by omega)
   .exact (DU (by rw [hk];exact (Mb hb hl).1)).elim
 .intro A _;rfl
theorem eb.still (hs:eb P T C ops o e e1 h h1 v k) (qi:k=0):h1.size=h.size/\∀ A,h1.get A=h.get A:=by
 rcases hs with ⟨_,h2,aj,rfl,_,hk⟩|⟨_,_,rfl,_,_⟩
 .by_cases hb:nV T o=true
  .obtain ⟨rfl,_⟩:=S0 hb aj
   exact ⟨rfl,λ_=>rfl⟩
  .exfalso
   by_cases hl:h.size<=h2.low
   .exact (TE hb hl).2.1 (by rw [<- hk,qi])
   .have:=(Mb (e:=e) hb hl).1
    omega
 .exact ⟨rfl,λ_=>rfl⟩
theorem eb.other (hs:eb P T C ops o e e1 h h1 v k) (DU:k % 3=2) (hk5:5<=k):∀ A,5+3*A≠k->h1.get A=h.get A:=by
 rcases hs with ⟨_,h2,aj,rfl,_,hk⟩|⟨_,_,rfl,_,_⟩
 .intro A hA
  by_cases hb:nV T o=true
  .rw [zjf hb] at hk;omega
  .by_cases hl:h.size<=h2.low
   .have:=(TE (e:=e) hb hl).1
    omega
   .rcases (Mb (e:=e) hb hl).2 with h3|⟨t,a,y,x,aN,hx,h3⟩
    .omega
    .have aO:A≠x.block:=λe'=>by subst e';omega
     unfold gq at aj
     simp only [aN,hx,bX,cx] at aj
     obtain ⟨h4,hr,_,rfl⟩:=aj
     rw [Heap.jW]
     obtain ⟨B,off,sp⟩:=x
     unfold gN at hr
     split at hr
     .rename_i B' o' heq
      cases heq
      simp only [ck] at hr
      obtain ⟨n,_,hr⟩:=hr
      split at hr
      .unfold np at hr
       split at hr
       .rename_i cs e' hg
        split at hr
        .cases hr
         rw [Heap.aM _ _ _ _ (Heap.au hg),aA aO]
         rfl
        .cases hr
       .cases hr
      .cases hr
     .cases hr
 .intro A _;rfl

theorem bB.swap {ρ:cf} {w:World} (hs:bB ρ h w) (eW:∀ A L,ρ A=some L->h1.get A=h.get A\/h1.get A=none):bB ρ h1 w:=by
 refine ⟨λA L hA=>?_,λA A' L L' hA eG aO hb=>?_⟩
 .rcases eW A L hA with h2|h2
  .rw [h2];exact hs.jV A L hA
  .rw [h2];exact hs.lt hA
 .have dG:∀ B M,ρ B=some M->¬ live h B->¬ live h1 B:=by
   rintro B M hB hn ⟨b,h3,h4⟩
   rcases eW B M hB with h2|h2
   .exact hn ⟨b,by rw [<- h2];exact h3,h4⟩
   .rw [h2] at h3;cases h3
  rcases hs.inj A A' L L' hA eG aO hb with h2|h2|⟨⟨c1,e1,h2⟩,⟨c2,e2,h3⟩⟩
  .exact .inl (dG _ _ hA h2)
  .exact .inr (.inl (dG _ _ eG h2))
  .rcases eW A L hA with h4|h4
   .rcases eW A' L' eG with h5|h5
    .exact .inr (.inr ⟨⟨c1,e1,by rw [h4];exact h2⟩,⟨c2,e2,by rw [h5];exact h3⟩⟩)
    .exact .inr (.inl (by rintro ⟨b,h6,_⟩;rw [h5] at h6;cases h6))
   .exact .inl (by rintro ⟨b,h6,_⟩;rw [h4] at h6;cases h6)

theorem Fr.step {ρ0 ρ ρ':cf} {h0 hf hi hj:Heap} {w0 w w':World} (f:Fr ρ0 ρ h0 hf w0 w) (g:Fr ρ ρ' hi hj w w') (h1:hf.low<=hj.low) (h2:hj.size<=hf.size) (h3:h0.size<=hi.size):Fr ρ0 ρ' h0 hf w0 w':=by
 refine ⟨λA L hA=>g.grow A L (f.grow A L hA),?_,g.os.trans f.os,g.tape.trans f.tape,g.output.trans f.output,dZ f.size g.size,f.fR,f.low,?_,f.pX⟩
 .intro A L hA hn
  cases hρ:ρ A with
  |some L1 =>
   have e:L1=L:=by have:=g.grow A L1 hρ;rw [hA] at this;exact (Option.some.inj this).symm
   subst e
   exact f.fresh A L1 hρ hn
  |none =>
   obtain ⟨k1,k2,k3⟩:=g.fresh A L hA hρ
   refine ⟨by omega,by omega,?_⟩
   rcases k3 with k3|⟨A0,L0,h5,he,hl,xc⟩
   .exact .inl (dZ f.size k3)
   .cases Cd:ρ0 A0 with
    |some L1 =>
     have e:L1=L0:=by have:=f.grow A0 L1 Cd;rw [h5] at this;exact (Option.some.inj this).symm
     subst e
     exact .inr ⟨A0,L1,Cd,he,by omega,by omega⟩
    |none =>
     rcases (f.fresh A0 L0 h5 Cd).2.2 with h6|⟨A1,L1,h6,he6,hl6,QQ⟩
     .exact .inl (by omega)
     .exact .inr ⟨A1,L1,h6,he6.trans he,hl6,QQ⟩
 .intro b hb aD
  rw [g.ft b (dU hb f.size) ?_,f.ft b hb aD]
  intro A L hA hL
  cases hρ:ρ0 A with
  |some L0 =>
   have e:L0=L:=by have:=f.grow A L0 hρ;rw [hA] at this;exact (Option.some.inj this).symm
   subst e
   have:=aD A L0 hρ hL
   omega
  |none =>
   rcases (f.fresh A L hA hρ).2.2 with k1|⟨A0,L0,h5,he,hl,xc⟩
   .omega
   .have:=aD A0 L0 h5 (he.trans hL)
    omega

theorem zpD {x:Addr} {hh:Heap} (hg:hh.get x.block=h.get x.block):fU T t (.pointer (some x)) hh=fU T t (.pointer (some x)) h:=by
 obtain ⟨B,o,s⟩:=x
 cases s <;> simp only [fU,kL,hg]
theorem zwR {x:Addr} (hl:fU T t (.pointer (some x)) h=some v):x.block < h.size:=by
 rcases ln x.block h.size with h1|h1
 .exact h1
 .exfalso
  have hn:h.get x.block=none:=by unfold Heap.get;rw [aA (by omega)]
  obtain ⟨B,o,s⟩:=x
  simp only at hn
  cases s with
  |some q=>cases hl
  |none =>
   simp only [fU,kL,hn,ck] at hl
   obtain ⟨g,_,hl⟩:=hl
   cases g <;> simp at hl
theorem ziS {n:Nat} {ps:List (Nat × ai)} {h2:Heap} (hb:uE T t n ps h=some (v,h2)) (hs:h1.size=h.size):∃ b,h2=h.push b/\uE T t n ps h1=some (v,h1.push b):=by
 unfold uE at hb ⊢
 split at hb
 .rename_i e hd
  simp only [ck,Prod.exists] at hb
  obtain ⟨k,rN,z,hi,hb⟩:=hb
  split at hb
  .cases hb
  .rename_i hc
   simp only [bX,cx] at hb
   obtain ⟨cs,o0,rfl,rfl⟩:=hb
   refine ⟨_,rfl,?_⟩
   simp only [hi,dz]
   rw [aA hc,o0,hs]
   rfl
 .cases hb
theorem zpI {t:Nat} (h:Operand.tmp t∈o.op.operands.toList):t∈o.looksAt ops:=by
 unfold Oper.looksAt
 rw [ju]
 left
 rw [List.mem_filterMap]
 exact ⟨_,h,rfl⟩

set_option maxHeartbeats 1000000 in
theorem Zu (jk:P.follows .mixedOrders=true) (hT:T.Fits P) {gs:List Nat} (hC:CS P gs C) (hg:qB C):DS P gs (nX P T C):=by
 intro rl id ops e0 e' h0 h' ρ0 a0 w0 Q aj cX hG0 hs0 Qu tj hQ
 unfold nX at aj
 split at aj
 case h_2=>cases aj
 rename_i ks ee hh dN
 split at aj
 case isFalse=>cases aj
 rename_i yU
 cases aj
 obtain ⟨E,H,V,PU,AQ,WG,wI,xb,htr⟩:=zrD ops.toList e0 e' h0 h' ks dN
 rw [ss] at WG wI
 have nL:∀ i o,ops[i]? = some o->eb P T C ops o (E i) (E (i+1)) (H i) (H (i+1)) (V i) (ks.getD i 2):=λi o ho=>htr i o (by simpa using ho)
 have eP:∀ i,i < ops.size->∃ o,ops[i]? = some o:=λi hi=>⟨_,EM hi⟩
 have cN:∀ i j,i<=j->j<=ops.size->bh (H i) (H j):=by
  intro i j ej
  induction ej with
  |refl=>intro _;exact .refl _
  |step ej ih =>
   rename_i k
   intro hj
   obtain ⟨o,ho⟩:=eP k (by omega)
   exact (ih (by omega)).trans ((nL k o ho).keeps hg)
 have fQ:∀ i j,i<=j->j<=ops.size->(∀ k,i<=k->k < j->ks.getD k 2 % 3≠2)->∀ A,A < (H i).size->(H j).get A=(H i).get A:=by
  intro i j ej
  induction ej with
  |refl=>intro _ _ A _;rfl
  |step ej ih =>
   rename_i k
   intro hj hk A hA
   obtain ⟨o,ho⟩:=eP k (by omega)
   have h1:=(nL k o ho).same hg (hk k (by omega) (pP _)) A (dU hA (cN i k (by omega) (by omega)).size)
   exact h1.trans (ih (by omega) (λq h2 h3=>hk q h2 (by omega)) A hA)
 have qQ:∀ j,j < ops.size->EH ops ks (kV ops.toList []) j=true:=λj hj=>gz.1 yU j (pQ.2 hj)
 have lV:∀ (j:Nat) (o:Oper),ops[j]? = some o->∀ e∈o.after.toList,Region.binds .any e=true->e.on < j:=by
  intro j o ho e he hb
  have:=qQ j (kX.1 ho).1
  simp only [EH,ho,dj,gz] at this
  have h2:=this.1 e he
  simpa [hb] using h2
 have zc:∀ (i j:Nat) (oi oj:Oper),i < j->ops[i]? = some oi->ops[j]? = some oj->((kV ops.toList []).getD j 0).testBit i=true\/(oi.apart ops oj=true/\lE (ks.getD i 2) (ks.getD j 2)=true):=by
  intro i j oi oj ej xp nH
  have:=qQ j (kX.1 nH).1
  simp only [EH,nH,dj,gz] at this
  have h2:=this.2 i (pQ.2 ej)
  simpa [xp] using h2
 clear yU qQ
 let dst:Nat->Option Tmp:=λk=>(ops[k]?).bind (·.dst)
 refine wpIn_region_any jk ?_
 have Gv:∀ k,k<=ops.size->(E k).length=e0.length:=by
  intro k
  induction k with
  |zero=>intro _;rw [PU]
  |succ k ih =>
   intro hk
   obtain ⟨o,ho⟩:=eP k (by omega)
   rcases nL k o ho with ⟨_,_,_,_,h1,_⟩|⟨_,_,_,h1,_⟩ <;> rw [h1,Md,ih (by omega)]
 have yQ:∀ k o,ops[k]? = some o->E (k+1)=put (E k) (dst k) (V k):=by
  intro k o ho
  have hd:dst k=o.dst:=by simp [dst,ho]
  rw [hd]
  rcases nL k o ho with ⟨_,_,_,_,h1,_⟩|⟨_,h2,_,h1,_⟩
  .exact h1
  .rw [h1,h2]
 have fin:∀ (listed:Array Bool) (ρ:cf) (a:Act) (w:World),(∀ k,k < ops.size->listed.getD k false=true)->bO ρ (eS e0 dst V (λk=>listed.getD k false) ops.size) a.tmps->a.defers=a0.defers ->
  (∃ m,m<=ops.size/\bB ρ (H m) w/\(∀ k,k < m->ks.getD k 2 % 3=2->listed.getD k false=true)/\(m=ops.size\/(ks.getD m 2 % 3=2/\listed.getD m false=false)))->Fr ρ0 ρ h0 h' w0 w->Q .normal a w:=by
  intro listed ρ a w aD jI qT rh dm
  obtain ⟨m,ga,iF,rT,DY⟩:=rh
  have Q3:m=ops.size:=by
   rcases DY with h1|⟨_,h1⟩
   .exact h1
   .rcases ln m ops.size with h2|h2
    .rw [aD m h2] at h1;cases h1
    .omega
  subst Q3
  rw [wI] at iF
  have heq:∀ k,k<=ops.size->eS e0 dst V (λk=>listed.getD k false) k=E k:=by
   intro k
   induction k with
   |zero=>intro _;exact PU.symm
   |succ k ih =>
    intro hk
    obtain ⟨o,ho⟩:=eP k (by omega)
    simp only [eS]
    rw [aG (aD k (by omega)),ih (by omega),yQ k o ho]
  rw [heq _ (aS _),WG] at jI
  exact hQ ρ a w dm iF jI qT
 have uz:∀ (listed:Array Bool),listed.size=ops.size->Region.ready .any ops listed=[]->∀ k,k < ops.size->listed.getD k false=true:=by
  intro listed yY hr k
  induction k using Nat.strongRecOn with
  |_ k ih =>
   intro hk
   cases hb:listed.getD k false with
   |true=>rfl
   |false =>
    exfalso
    obtain ⟨o,ho⟩:=eP k hk
    have eD:k∈Region.ready .any ops listed:=by
     rw [mem_ready]
     refine ⟨?_,o,ho,λe he fO=>?_⟩
     .have:k < listed.size:=by omega
      simp [this] at hb ⊢
      exact hb
     .have aW:=lV k o ho e (by simpa using he) fO
      exact ih e.on aW (by omega)
    rw [hr] at eD
    cases eD
 have main:∀ (fuel:Nat) (listed:Array Bool) (ρ:cf) (a:Act) (w:World),listed.size=ops.size->(List.range ops.size).countP (λk => !listed.getD k false)<=fuel ->
  (∀ (j:Nat) (o:Oper),ops[j]? = some o->listed.getD j false=true->∀ e∈o.after.toList,Region.binds .any e=true->listed.getD e.on false=true) ->
  bO ρ (eS e0 dst V (λk=>listed.getD k false) ops.size) a.tmps->a.defers=a0.defers ->
  (∃ m,m<=ops.size/\bB ρ (H m) w/\(∀ k,k < m->ks.getD k 2 % 3=2->listed.getD k false=true)/\(m=ops.size\/(ks.getD m 2 % 3=2/\listed.getD m false=false))) ->
  (∀ A L,ρ A=some L->ρ0 A=some L\/∃ j,j < ops.size/\listed.getD j false=true/\(H j).size<=A/\A < (H (j+1)).size) ->
  Fr ρ0 ρ h0 h' w0 w->wpAnyIn (WR rl) 0 P .any ops Q fuel listed a w:=by
  intro fuel
  induction fuel with
  |zero =>
   intro listed ρ a w yY Bh kp jI qT rh wQ dm
   have aD:∀ k,k < ops.size->listed.getD k false=true:=by
    intro k hk
    have h1:=List.countP_eq_zero.1 (Nat.le_zero.1 Bh) k (pQ.2 hk)
    simpa using h1
   refine ⟨?_,fin listed ρ a w aD jI qT rh dm⟩
   apply List.eq_nil_iff_forall_not_mem.2
   intro i hi
   rw [mem_ready] at hi
   obtain ⟨h1,o,ho,_⟩:=hi
   have aW:i < ops.size:=(kX.1 ho).1
   have h2:=aD i aW
   have:i < listed.size:=by omega
   simp [this] at h1 h2
   rw [h2] at h1
   cases h1
  |succ fuel ih =>
   intro listed ρ a w yY Bh kp jI qT rh wQ dm
   refine ⟨λhr=>fin listed ρ a w (uz listed yY hr) jI qT rh dm,?_⟩
   intro i hi
   rw [mem_ready] at hi
   obtain ⟨w9,o,ho,mP⟩:=hi
   have G1:i < ops.size:=(kX.1 ho).1
   have DN:listed.getD i false=false:=by
    have:i < listed.size:=by omega
    simp [this] at w9 ⊢
    exact w9
   have zd:∀ e∈o.after.toList,Region.binds .any e=true->listed.getD e.on false=true:=λe he hb=>mP e (by simpa using he) hb
   have nA:∀ k,(listed.setIfInBounds i true).getD k false=(decide (k=i) || listed.getD k false):=by
    intro k
    by_cases hk:k=i
    .subst hk
     have:k < listed.size:=by omega
     simp [this]
    .simp [EC (Ne.symm hk),hk]
   have mJ:∀ k ok,k < i->ops[k]? = some ok->listed.getD k false=false->ok.apart ops o=true/\lE (ks.getD k 2) (ks.getD i 2)=true:=by
    intro k ok qX gY hk
    rcases zc k i ok o qX gY ho with h1|h1
    .have:=znK (S:=λj=>listed.getD j false=true) lV kp i i o k (aS _) ho zd h1
     rw [hk] at this
     cases this
    .exact h1
   have gG:∀ j oj,i < j->ops[j]? = some oj->listed.getD j false=true->o.apart ops oj=true/\lE (ks.getD i 2) (ks.getD j 2)=true:=by
    intro j oj ej nH hj
    rcases zc i j o oj ej ho nH with h1|h1
    .have:=znK (S:=λj=>listed.getD j false=true) lV kp j j oj i (aS _) nH (kp j oj nH hj) h1
     rw [DN] at this
     cases this
    .exact h1
   have yX:∀ t,t∈o.looksAt ops->(eS e0 dst V (λk=>listed.getD k false) ops.size).get t=(E i).get t:=by
    intro t ht
    have p1:∀ k,k<=i->(eS e0 dst V (λk=>listed.getD k false) k).get t=(E k).get t:=by
     intro k
     induction k with
     |zero=>intro _;rw [PU];rfl
     |succ k ld =>
      intro hk
      obtain ⟨ok,gY⟩:=eP k (by omega)
      rw [yQ k ok gY]
      simp only [eS]
      split
      .exact Tb (by rw [CN,Gv k (by omega)]) (ld (by omega))
      .rename_i iw
       rw [ld (by omega),Eu]
       intro hd
       have GA:=(Oper.apart_spec (mJ k ok (by omega) gY (by simpa using iw)).1).1
       exact GA t (by simpa [dst,gY] using hd) ht
    have p2:∀ k,i<=k->k<=ops.size->(eS e0 dst V (λk=>listed.getD k false) k).get t=(eS e0 dst V (λk=>listed.getD k false) i).get t:=by
     intro k tt
     induction tt with
     |refl=>intro _;rfl
     |step tt ld =>
      rename_i k
      intro hk
      obtain ⟨ok,gY⟩:=eP k (by omega)
      simp only [eS]
      split
      .rename_i iw
       rw [Eu,ld (by omega)]
       intro hd
       have aO:i≠k:=λe=>by subst e;rw [DN] at iw;cases iw
       have QF:i<=k:=tt
       have GA:=(Oper.apart_spec (gG k ok (by omega) gY iw).1).2.2
       exact GA t (by simpa [dst,gY] using hd) ht
      .exact ld (by omega)
    rw [p2 _ (by omega) (aS _),p1 i (aS _)]
   have Hm:∀ x∈o.op.operands.toList,br (eS e0 dst V (λk=>listed.getD k false) ops.size) x=br (E i) x:=by
    intro x hx
    cases x with
    |tmp t=>exact yX t (zpI hx)
    |_=>rfl
   have HJ:kU ops o (eS e0 dst V (λk=>listed.getD k false) ops.size)=kU ops o (E i):=by
    unfold kU
    cases hgd:o.guard with
    |none=>rfl
    |some g =>
     obtain ⟨j,b⟩:=g
     simp only
     cases hdj:(ops[j]?).bind (·.dst) with
     |none=>rfl
     |some t =>
      simp only
      rw [yX t (by unfold Oper.looksAt;rw [ju];right;simp [hgd,hdj])]
   have GZ:∀ t,(eS e0 dst V (λk=>(listed.setIfInBounds i true).getD k false) ops.size).get t=(put (eS e0 dst V (λk=>listed.getD k false) ops.size) o.dst (V i)).get t:=by
    intro t
    have hdi:dst i=o.dst:=by simp [dst,ho]
    have p1:∀ k,k<=i->eS e0 dst V (λk=>(listed.setIfInBounds i true).getD k false) k=eS e0 dst V (λk=>listed.getD k false) k:=by
     intro k
     induction k with
     |zero=>intro _;rfl
     |succ k ld =>
      intro hk
      have qX:decide (k=i)=false:=by simp;omega
      cases iw:listed.getD k false with
      |true=>rw [Kh (S:=λk=>(listed.setIfInBounds i true).getD k false) (by show (listed.setIfInBounds i true).getD k false=true;rw [nA k,iw];simp),Kh (S:=λk=>listed.getD k false) iw,ld (by omega)]
      |false=>rw [EV (S:=λk=>(listed.setIfInBounds i true).getD k false) (by show (listed.setIfInBounds i true).getD k false=false;rw [nA k,iw,qX];rfl),EV (S:=λk=>listed.getD k false) iw,ld (by omega)]
    have p2:∀ k,i+1<=k->k<=ops.size->(eS e0 dst V (λk=>(listed.setIfInBounds i true).getD k false) k).get t=(put (eS e0 dst V (λk=>listed.getD k false) k) o.dst (V i)).get t:=by
     intro k tt
     induction tt with
     |refl =>
      intro _
      rw [Kh (S:=λk=>(listed.setIfInBounds i true).getD k false) (by show (listed.setIfInBounds i true).getD i false=true;rw [nA i];simp),p1 i (aS _),EV (S:=λk=>listed.getD k false) DN,hdi]
     |step tt ld =>
      rename_i k
      intro hk
      have QF:i+1<=k:=tt
      obtain ⟨ok,gY⟩:=eP k (by omega)
      have qX:decide (k=i)=false:=by simp;omega
      have xB:=ld (by omega)
      cases iw:listed.getD k false with
      |true =>
       rw [Kh (S:=λk=>(listed.setIfInBounds i true).getD k false) (by show (listed.setIfInBounds i true).getD k false=true;rw [nA k,iw];simp),Kh (S:=λk=>listed.getD k false) iw]
       have GA:=(Oper.apart_spec (gG k ok (by omega) gY iw).1).2.1
       have hdk:dst k=ok.dst:=by simp [dst,gY]
       have hlen:(eS e0 dst V (λk=>(listed.setIfInBounds i true).getD k false) k).length=(eS e0 dst V (λk=>listed.getD k false) k).length:=by rw [CN,CN]
       by_cases Qp:o.dst=some t
       .have aO:dst k≠some t:=by rw [hdk];exact λe=>GA t Qp e
        rw [Eu aO,xB]
        exact Tb (by rw [Md]) (Eu aO).symm
       .rw [Eu Qp] at xB
        rw [Eu Qp]
        exact Tb hlen xB
      |false =>
       rw [EV (S:=λk=>(listed.setIfInBounds i true).getD k false) (by show (listed.setIfInBounds i true).getD k false=false;rw [nA k,iw,qX];rfl),EV (S:=λk=>listed.getD k false) iw]
       exact xB
    exact p2 _ (by omega) (aS _)
   have tB:(listed.setIfInBounds i true).size=ops.size:=by simp [yY]
   have nC:(List.range ops.size).countP (λk => !(listed.setIfInBounds i true).getD k false)<=fuel:=by
    have:=znb (p:=λk => !listed.getD k false) (p':=λk => !(listed.setIfInBounds i true).getD k false) (List.range ops.size)
     (λk _ hk=>by rw [nA k] at hk;simp at hk ⊢;exact hk.2) ⟨i,pQ.2 G1,by rw [DN];rfl,by rw [nA i];simp⟩
    omega
   have kq:∀ (j:Nat) (oj:Oper),ops[j]? = some oj->(listed.setIfInBounds i true).getD j false=true->∀ e∈oj.after.toList,Region.binds .any e=true->(listed.setIfInBounds i true).getD e.on false=true:=by
    intro j oj nH hj e he hb
    rw [nA e.on]
    rw [nA j] at hj
    by_cases rR:j=i
    .subst rR
     rw [ho] at nH
     cases nH
     rw [zd e he hb]
     simp
    .have hj':listed.getD j false=true:=by simpa [rR] using hj
     rw [kp j oj nH hj' e he hb]
     simp
   have nE:∀ (ρ':cf) (u:ai),(∀ A L,ρ A=some L->ρ' A=some L)->VR ρ' (V i) u->bO ρ' (eS e0 dst V (λk=>(listed.setIfInBounds i true).getD k false) ops.size) (a.put o.dst u).tmps:=by
    intro ρ' u La hv
    have h1:=(jI.mono La).put hv o.dst
    exact ⟨by rw [CN,<- h1.1,Md,CN],λt=>by rw [GZ t];exact h1.2 t⟩
   have nD:∀ u,(a.put o.dst u).defers=a0.defers:=λu=>by cases o.dst <;> exact qT
   obtain ⟨m,ga,iF,rT,DY⟩:=rh
   have kG:ks.getD i 2 % 3≠2->∀ (ρ':cf) (w':World),bB ρ' (H m) w'->∃ m,m<=ops.size/\bB ρ' (H m) w'/\(∀ k,k < m->ks.getD k 2 % 3=2->(listed.setIfInBounds i true).getD k false=true)/\(m=ops.size\/(ks.getD m 2 % 3=2/\(listed.setIfInBounds i true).getD m false=false)):=by
    intro qi ρ' w' dH
    refine ⟨m,ga,dH,λk h1 h2=>by rw [nA k,rT k h1 h2];simp,?_⟩
    rcases DY with h1|⟨h1,h2⟩
    .exact .inl h1
    .refine .inr ⟨h1,?_⟩
     have:m≠i:=λe=>by rw [e] at h1;exact qi h1
     rw [nA m,h2]
     simp [this]
   have iO:∀ (ρ':cf),(∀ A L,ρ' A=some L->ρ A=some L\/((H i).size<=A/\A < (H (i+1)).size)) ->
    ∀ A L,ρ' A=some L->ρ0 A=some L\/∃ j,j < ops.size/\(listed.setIfInBounds i true).getD j false=true/\(H j).size<=A/\A < (H (j+1)).size:=by
    intro ρ' ui A L hA
    rcases ui A L hA with h1|h1
    .rcases wQ A L h1 with h2|⟨j,h2,h3,h4⟩
     .exact .inl h2
     .exact .inr ⟨j,h2,by rw [nA j,h3];simp,h4⟩
    .exact .inr ⟨i,G1,by rw [nA i];simp,h1⟩
   have mM:∀ A,(H i).size<=A->A < (H (i+1)).size->ρ A=none:=by
    intro A h1 h2
    cases hA:ρ A with
    |none=>rfl
    |some L =>
     exfalso
     rcases wQ A L hA with h3|⟨j,h3,h4,h5,h6⟩
     .have h7:=(cN 0 i (by omega) (by omega)).size
      have h8:=(cN (i+1) ops.size (by omega) (aS _)).size
      rw [AQ] at h7
      rw [wI] at h8
      rw [Qu A (by omega) (by omega)] at h3
      cases h3
     .have rR:j≠i:=λe=>by subst e;rw [DN] at h4;cases h4
      rcases ln j i with aW|qU
      .have:=(cN (j+1) i (by omega) (by omega)).size
       omega
      .have:=(cN (i+1) j (by omega) (by omega)).size
       omega
   unfold wpOpIn
   simp only [ho]
   rw [zoz jI,HJ]
   rcases nL i o ho with ⟨eY,h2,kr,KY,_,hk⟩|⟨eY,hv,KY,_,hk⟩
   .rw [aG eY]
    have ql:ja ρ o:=(cX o (by simpa using Array.mem_of_getElem? ho)).mono dm.grow
    have hG:=hG0.mono dm.grow
    have wV:∀ hx,gq P T C (eS e0 dst V (λk=>listed.getD k false) ops.size) o hx=gq P T C (E i) o hx:=λhx=>znr hx Hm
    by_cases hb:nV T o=true
    .rw [zjf hb] at hk
     have Bj:=(S0 hb kr).2 (H m)
     have iw:ks.getD i 2 % 3≠2:=by omega
     have tP:=Ee (h':=H m) hT hC hG iF jI ql (λA h1 h2=>by omega) (by rw [wV];exact Bj)
     refine tP.wp (Ea kr) λρ' u w' f1 s1 v1=>?_
     have fQ:∀ A L,ρ' A=some L->ρ A=some L:=by
      intro A L hA
      cases hρ:ρ A with
      |some L1=>have:=f1.grow A L1 hρ;rw [hA] at this;exact this.symm
      |none=>have:=f1.fresh A L hA hρ;omega
     refine ih _ ρ' _ w' tB nC kq (nE ρ' u f1.grow v1) (nD u) (kG iw ρ' w' s1) (iO ρ' λA L hA=>.inl (fQ A L hA)) ?_
     have k1:=cN m ops.size ga (aS _)
     have k2:=cN 0 m (by omega) ga
     rw [wI] at k1
     rw [AQ] at k2
     exact dm.step f1 k1.low k1.size k2.size
    .have kI:=cN i ops.size (by omega) (aS _)
     have Lr:=cN (i+1) ops.size (by omega) (aS _)
     have Lq:=cN 0 i (by omega) (by omega)
     rw [wI] at kI Lr
     rw [AQ] at Lq
     have B3:(H (i+1)).size=h2.size:=by rw [KY]
     have qj:h'.low<=h2.low:=by
      have h3:=Lr.low
      rw [KY] at h3
      exact dZ h3 (E4 _ _)
     have tm:∀ A,(H (i+1)).get A=h2.get A:=λA=>by rw [KY];rfl
     by_cases eC:(H i).size<=h2.low
     ./- it turns nothing that is there -/
      obtain ⟨pe,qi,tx⟩:=TE (T:=T) (e:=E i) hb eC
      rw [<- hk] at pe qi tx
      have qW:i < m:=by
       rcases DY with h3|⟨h3,h4⟩
       .omega
       .rcases ln i m with h5|h5
        .exact h5
        .exfalso
         have aO:m≠i:=λe=>by rw [e] at h3;exact pe h3
         obtain ⟨om,Hk⟩:=eP m (by omega)
         exact qi (MJ h3 (mJ m om (by omega) Hk h4).2)
      have qo:∀ k,i<=k->k < m->ks.getD k 2 % 3=2->5<=ks.getD k 2/\((ks.getD i 2 % 3=0/\3<=ks.getD i 2/\ks.getD i 2+2≠ks.getD k 2)\/(ks.getD i 2 % 3=1/\3<=ks.getD i 2/\ks.getD k 2+2<=ks.getD i 2)):=by
       intro k h3 h4 h5
       have aO:k≠i:=λe=>by rw [e] at h5;exact pe h5
       have h6:=rT k h4 h5
       obtain ⟨ok,gY⟩:=eP k (by omega)
       rcases zu0 h5 (gG k ok (by omega) gY h6).2 with h8|h8
       .exact (qi h8).elim
       .exact h8
      have GF:∀ (B j:Nat),i<=j->j<=m->B < (H j).size->(∀ k,i<=k->k < m->ks.getD k 2 % 3=2->5+3*B≠ks.getD k 2)->(H m).get B=(H j).get B:=by
       intro B j h3 h4 h5 h6
       have hx:∀ d,j+d<=m->(H (j+d)).get B=(H j).get B:=by
        intro d
        induction d with
        |zero=>intro _;rfl
        |succ d HQ =>
         intro hd
         obtain ⟨ok,gY⟩:=eP (j+d) (by omega)
         have h7:=HQ (by omega)
         have h8:B < (H (j+d)).size:=dU h5 (cN j (j+d) (by omega) (by omega)).size
         rw [<- h7]
         by_cases h9:ks.getD (j+d) 2 % 3=2
         .exact (nL (j+d) ok gY).other h9 (qo (j+d) (by omega) (by omega) h9).1 B (h6 (j+d) (by omega) (by omega) h9)
         .exact (nL (j+d) ok gY).same hg h9 B h8
       have h7:=hx (m - j) (by omega)
       rwa [show j+(m - j)=m by omega] at h7
      by_cases me:∃ t a x,o.op=.load t a/\br (E i) a=.pointer (some x)/\ks.getD i 2=3+3*x.block
      .obtain ⟨t,a',x,aN,hx,hkv⟩:=me
       have Bj:gq P T C (E i) o (H m)=some (V i,H m):=by
        unfold gq at kr ⊢
        simp only [aN,hx,bX,cx] at kr ⊢
        obtain ⟨r,hr,h3,_⟩:=kr
        refine ⟨r,?_,h3,trivial⟩
        have aW:x.block < (H i).size:=zwR hr
        rw [zpD (h:={ H i with low:=(H i).size }) (by rw [Heap.jW];exact GF x.block i (aS _) (by omega) aW (λk h4 h5 h6=>by have:=(qo k h4 h5 h6).2;omega))]
        exact hr
       have tP:=Ee (h':=H m) hT hC hG iF jI ql (λA h1 h2=>by omega) (by rw [wV];exact Bj)
       refine tP.wp (Ea kr) λρ' u w' f1 s1 v1=>?_
       have fQ:∀ A L,ρ' A=some L->ρ A=some L:=by
        intro A L hA
        cases hρ:ρ A with
        |some L1=>have:=f1.grow A L1 hρ;rw [hA] at this;exact this.symm
        |none=>have:=f1.fresh A L hA hρ;omega
       refine ih _ ρ' _ w' tB nC kq (nE ρ' u f1.grow v1) (nD u) (kG pe ρ' w' s1) (iO ρ' λA L hA=>.inl (fQ A L hA)) ?_
       have k1:=cN m ops.size ga (aS _)
       have k2:=cN 0 m (by omega) ga
       rw [wI] at k1
       rw [AQ] at k2
       exact dm.step f1 k1.low k1.size k2.size
      have Q1:∃ hx AM:Heap,hx.size=(H i).size/\bB ρ hx w/\gq P T C (E i) o hx=some (V i,AM)/\AM.size=h2.size/\h'.low<=AM.low/\(H i).size<=AM.low/\∀ A,(H i).size<=A->A < h2.size->(H m).get A=AM.get A:=by
       rcases tx with h3|h3|⟨⟨t,n,ps,aN⟩,hkv⟩
       .have ni:∀ k,i<=k->k < m->ks.getD k 2 % 3≠2:=by
         intro k h4 h5 h6
         have:=(qo k h4 h5 h6).2
         omega
        have hgI:∀ A,A < (H i).size->(H m).get A=(H i).get A:=fQ i m (by omega) ga ni
        have Br:∀ A,A < (H (i+1)).size->(H m).get A=(H (i+1)).get A:=fQ (i+1) m (by omega) ga (λk h3 h4=>ni k (by omega) h4)
        refine ⟨{ H i with low:=(H i).size },h2,rfl,?_,kr,rfl,qj,eC,λA h4 h5=>by rw [Br A (by omega),tm A]⟩
        refine iF.swap λA L hA=>?_
        rw [Heap.jW]
        rcases ln A (H i).size with h3|h3
        .exact .inl (hgI A h3).symm
        .right
         unfold Heap.get
         rw [aA (by omega)]
       .exact (me h3).elim
       .have af7:=(cN i m (by omega) ga).size
        have Bk:=kr
        unfold gq at Bk
        simp only [aN] at Bk
        obtain ⟨b,jg,Qe⟩:=ziS (h1:=(⟨(H i).size,(H m).tr,(H i).size⟩:Heap)) Bk rfl
        have tA:h2.low=(H i).size:=by rw [jg];rfl
        have tW:h2.size=(H i).size+1:=by rw [jg];rfl
        refine ⟨⟨(H i).size,(H m).tr,(H i).size⟩,_,rfl,?_,by unfold gq;simp only [aN];exact Qe,by rw [tW];rfl,by rw [tA] at qj;exact qj,aS _,λA h4 h5=>?_⟩
        .refine iF.swap λA L hA=>?_
         unfold Heap.get
         rcases ln A (H i).size with h3|h3
         .left
          rw [aG h3,aG (by omega)]
         .right
          rw [aA (show ¬ A < (H i).size by omega)]
        .have hA:A=(H i).size:=by omega
         subst hA
         rw [GF _ (i+1) (by omega) (by omega) (by rw [B3,tW];omega) (λk h6 h7 h8=>by have:=(qo k h6 h7 h8).2;omega),tm,jg,Heap.bS,Heap.bS,aG rfl,aG rfl]
      obtain ⟨hx,AM,mg,tR,Qt,h2s,tA,QB,hN⟩:=Q1
      have tP:=Ee (h':=AM) hT hC hG tR jI ql (λA h3 h4=>mM A (by omega) (by omega)) (by rw [wV];exact Qt)
      refine tP.wp (Ea kr) λρ' u w' f1 s1 v1=>?_
      have nG:∀ A L,ρ' A=some L->ρ A=none->(H i).size<=A/\A < h2.size/\w.heap.size<=L.b:=by
       intro A L hA hn
       obtain ⟨h3,h4,h5⟩:=f1.fresh A L hA hn
       refine ⟨by omega,by omega,?_⟩
       rcases h5 with h5|⟨A0,L0,h6,_,h7,h8⟩
       .exact h5
       .rw [mM A0 (by omega) (by omega)] at h6
        cases h6
      have B9:∀ b,b < w.heap.size->w'.heap[b]? = w.heap[b]? := by
       intro b lU
       refine f1.ft b lU λA L hA _=>?_
       rcases ln A (H i).size with h3|h3
       .left;omega
       .right
        rcases ln A h2.size with h4|h4
        .rw [mM A h3 (by omega)] at hA;cases hA
        .omega
      have tQ:bB ρ' (H m) w':=by
       refine ⟨λA L hA=>?_,λA A' L L' hA eG aO wM=>?_⟩
       .cases hρ:ρ A with
        |none =>
         obtain ⟨h3,h4,_⟩:=nG A L hA hρ
         rw [hN A h3 h4]
         exact s1.jV A L hA
        |some L1 =>
         have e:L1=L:=by have:=f1.grow A L1 hρ;rw [hA] at this;exact (Option.some.inj this).symm
         subst e
         exact (iF.jV A L1 hρ).ft f1.grow f1.size λ_=>B9 L1.b (iF.lt hρ)
       .cases hρ:ρ A with
        |none =>
         obtain ⟨h3,h4,h5⟩:=nG A L hA hρ
         cases ui:ρ A' with
         |none =>
          obtain ⟨h6,h7,h8⟩:=nG A' L' eG ui
          have hx:=s1.inj A A' L L' hA eG aO wM
          unfold live lD at hx ⊢
          rw [hN A h3 h4,hN A' h6 h7]
          exact hx
         |some L1 =>
          have e:L1=L':=by have:=f1.grow A' L1 ui;rw [eG] at this;exact (Option.some.inj this).symm
          subst e
          have:=iF.lt ui
          omega
        |some L1 =>
         have e:L1=L:=by have:=f1.grow A L1 hρ;rw [hA] at this;exact (Option.some.inj this).symm
         subst e
         cases ui:ρ A' with
         |none =>
          obtain ⟨h6,h7,h8⟩:=nG A' L' eG ui
          have:=iF.lt hρ
          omega
         |some L2 =>
          have e:L2=L':=by have:=f1.grow A' L2 ui;rw [eG] at this;exact (Option.some.inj this).symm
          subst e
          exact iF.inj A A' L1 L2 hρ ui aO wM
      refine ih _ ρ' _ w' tB nC kq (nE ρ' u f1.grow v1) (nD u) ?_ (iO ρ' λA L hA=>?_) (dm.step f1 tA (by have:=Lr.size;omega) (by rw [mg];exact Lq.size))
      .refine ⟨m,ga,tQ,λk h3 h4=>by rw [nA k,rT k h3 h4];simp,?_⟩
       rcases DY with h3|⟨h3,h4⟩
       .exact .inl h3
       .refine .inr ⟨h3,?_⟩
        rw [nA m,h4,show decide (m=i)=false by simp;omega]
        rfl
      .cases hρ:ρ A with
       |none=>right;have:=nG A L hA hρ;omega
       |some L1=>left;have:=f1.grow A L1 hρ;rw [hA] at this;rw [this]
     .obtain ⟨pe,_⟩:=Mb (T:=T) (e:=E i) hb eC
      rw [<- hk] at pe
      have Lh:m=i:=by
       rcases Kd m i with h3|h3|h3
       .exfalso
        rcases DY with h4|⟨h4,h5⟩
        .omega
        .obtain ⟨om,Hk⟩:=eP m (by omega)
         have:=MJ h4 (mJ m om h3 Hk h5).2
         omega
       .exact h3
       .have:=rT i h3 pe
        rw [DN] at this
        cases this
      subst Lh
      have tR:bB ρ { H m with low:=(H m).size } w:=iF.swap λA L _=>.inl rfl
      have tP:=Ee (h':=h2) hT hC hG tR jI ql (λA h3 h4=>mM A h3 (by omega)) (by rw [wV];exact kr)
      refine tP.wp (Ea kr) λρ' u w' f1 s1 v1=>?_
      have mc:∃ m',m+1<=m'/\m'<=ops.size/\(∀ k,m+1<=k->k < m'->ks.getD k 2 % 3≠2)/\(m'=ops.size\/ks.getD m' 2 % 3=2):=by
       have hx:∀ d,d<=ops.size - (m+1)->(∀ k,m+1<=k->k < m+1+d->ks.getD k 2 % 3≠2)\/∃ m',m+1<=m'/\m'<=ops.size/\(∀ k,m+1<=k->k < m'->ks.getD k 2 % 3≠2)/\(m'=ops.size\/ks.getD m' 2 % 3=2):=by
        intro d
        induction d with
        |zero=>intro _;left;intro k h3 h4;omega
        |succ d HQ =>
         intro hd
         rcases HQ (by omega) with h3|h3
         .by_cases h4:ks.getD (m+1+d) 2 % 3=2
          .exact .inr ⟨m+1+d,by omega,by omega,h3,.inr h4⟩
          .left
           intro k h5 h6
           by_cases h7:k=m+1+d
           .rw [h7];exact h4
           .exact h3 k h5 (by omega)
         .exact .inr h3
       rcases hx (ops.size - (m+1)) (aS _) with h3|h3
       .exact ⟨ops.size,by omega,aS _,λk h4 h5=>h3 k h4 (by omega),.inl rfl⟩
       .exact h3
      obtain ⟨m',QY,BB,G9,QZ⟩:=mc
      have Br:∀ A,A < (H (m+1)).size->(H m').get A=(H (m+1)).get A:=fQ (m+1) m' QY BB G9
      have wR:∀ A L,ρ A=some L->A < h2.size\/(ρ0 A=some L/\h'.size<=A):=by
       intro A L hA
       rcases wQ A L hA with h3|⟨j,h3,h4,h5,h6⟩
       .rcases ln A h2.size with h7|h7
        .exact .inl h7
        .rcases ln A h'.size with h8|h8
         .have h9:=Lq.size
          have h10:=(cN m (m+1) (by omega) (by omega)).size
          rw [Qu A (by omega) h8] at h3
          cases h3
         .exact .inr ⟨h3,h8⟩
       .left
        rcases ln j (m+1) with h7|h7
        .have:=(cN (j+1) (m+1) (by omega) (by omega)).size
         omega
        .exfalso
         obtain ⟨oj,nH⟩:=eP j h3
         have h9:ks.getD j 2=0:=MJ pe (gG j oj (by omega) nH h4).2
         have:=((nL j oj nH).still h9).1
         omega
      have tQ:bB ρ' (H m') w':=by
       refine s1.swap λA L hA=>?_
       have eG:A < h2.size\/h'.size<=A:=by
        cases hρ:ρ A with
        |none=>left;exact (f1.fresh A L hA hρ).2.1
        |some L1 =>
         rcases wR A L1 hρ with h3|h3
         .exact .inl h3
         .exact .inr h3.2
       rcases eG with h3|h3
       .left
        rw [Br A (by omega),tm A]
       .right
        have h4:=(cN m' ops.size BB (aS _)).size
        rw [wI] at h4
        unfold Heap.get
        rw [aA (by omega)]
      refine ih _ ρ' _ w' tB nC kq (nE ρ' u f1.grow v1) (nD u) ⟨m',BB,tQ,?_,?_⟩ (iO ρ' λA L hA=>?_) (dm.step f1 qj (by have:=Lr.size;omega) Lq.size)
      .intro k h3 h4
       rw [nA k]
       rcases ln k (m+1) with h5|h5
       .by_cases h6:k=m
        .simp [h6]
        .rw [rT k (by omega) h4];simp
       .exact (G9 k h5 h3 h4).elim
      .rcases QZ with h3|h3
       .exact .inl h3
       .rcases ln m' ops.size with h4|h4
        .refine .inr ⟨h3,?_⟩
         rw [nA m',show decide (m'=m)=false by simp;omega,DA]
         cases lU:listed.getD m' false with
         |false=>rfl
         |true =>
          exfalso
          obtain ⟨om,Hk⟩:=eP m' h4
          have:=MJ pe (gG m' om (by omega) Hk lU).2
          omega
        .exact .inl (by omega)
      .cases hρ:ρ A with
       |none =>
        right
        obtain ⟨h3,h4,_⟩:=f1.fresh A L hA hρ
        have sT:(H m).size<=A:=h3
        omega
       |some L1=>left;have:=f1.grow A L1 hρ;rw [hA] at this;rw [this]
   .rw [aA (by rw [eY];simp)]
    refine ⟨λ_ _=>trivial,?_⟩
    have hu:VR ρ (V i) undef:=by rw [hv];exact .undef ρ
    exact ih _ ρ _ w tB nC kq (nE ρ undef (λ_ _ h=>h) hu) (nD undef) (kG (by omega) ρ w iF) (iO ρ λA L hA=>.inl hA) dm
 have qi:=cN 0 ops.size (by omega) (aS _)
 rw [AQ,wI] at qi
 have pd:∀ k,(Array.replicate ops.size false).getD k false=false:=by
  intro k
  rcases ln k ops.size with h1|h1 <;> simp [h1]
 have nF:∀ k,eS e0 dst V (λk=>(Array.replicate ops.size false).getD k false) k=e0:=by
  intro k
  induction k with
  |zero=>rfl
  |succ k ih=>rw [EV (S:=λk=>(Array.replicate ops.size false).getD k false) (pd k),ih]
 refine main ops.size _ ρ0 a0 _ (by simp) (by have:=List.countP_le_length (p:=λk => !(Array.replicate ops.size false).getD k false) (l:=List.range ops.size);simpa using this) ?_ ?_ rfl ?_ ?_ ?_
 .intro j o _ hj
  rw [pd j] at hj
  cases hj
 .rw [nF];exact tj
 ./- the first that may turn something -/
  have Bn:∃ m,m<=ops.size/\(∀ k,k < m->ks.getD k 2 % 3≠2)/\(m=ops.size\/ks.getD m 2 % 3=2):=by
   have hx:∀ d,d<=ops.size->(∀ k,k < d->ks.getD k 2 % 3≠2)\/∃ m,m<=ops.size/\(∀ k,k < m->ks.getD k 2 % 3≠2)/\(m=ops.size\/ks.getD m 2 % 3=2):=by
    intro d
    induction d with
    |zero=>intro _;left;intro k h4;omega
    |succ d HQ =>
     intro hd
     rcases HQ (by omega) with h3|h3
     .by_cases h4:ks.getD d 2 % 3=2
      .exact .inr ⟨d,by omega,h3,.inr h4⟩
      .left
       intro k h6
       by_cases h7:k=d
       .rw [h7];exact h4
       .exact h3 k (by omega)
     .exact .inr h3
   rcases hx ops.size (aS _) with h3|h3
   .exact ⟨ops.size,aS _,h3,.inl rfl⟩
   .exact h3
  obtain ⟨m,ga,iF,rT⟩:=Bn
  refine ⟨m,ga,?_,λk h1 h2=>(iF k h1 h2).elim,?_⟩
  .have mQ:bB ρ0 h0 { w0 with drawn:=w0.drawn+1 }:=hs0.same rfl
   refine mQ.swap λA L hA=>?_
   rcases ln A h0.size with h1|h1
   .left
    have:=fQ 0 m (by omega) ga (λk _ h3=>iF k h3) A (by rw [AQ];exact h1)
    rw [this,AQ]
   .rcases ln A h'.size with h2|h2
    .rw [Qu A h1 h2] at hA;cases hA
    .right
     have h4:=(cN m ops.size ga (aS _)).size
     rw [wI] at h4
     unfold Heap.get
     rw [aA (by omega)]
  .rcases rT with h1|h1
   .exact .inl h1
   .exact .inr ⟨h1,pd m⟩
 .intro A L hA;exact .inl hA
 .exact ⟨λ_ _ h=>h,λA L h1 h2=>(by rw [h1] at h2;cases h2),rfl,rfl,rfl,aS _,qi.size,qi.low,λ_ _ _=>rfl,qi.get⟩
end
end Go.Am
namespace Go.Am
open Go.RowKit
variable {C:Fn->List ai->Heap->Option (ai × Heap)} {v:ai} {h h':Heap} {E:Code->Env->Heap->Option (Ex × Env × Heap)} {fn:Func} {ρ:cf}

abbrev Ov:=FuncId->Option (List ai->Heap->Option (ai × Heap))

def gK:Env->List Tmp->List ai->Env
 |e,t::ts,v::vs=>gK (e.set t v) ts vs
 |e,_,_=>e
def zC (A:Nat) (jump:Option Code) (h:Heap):Option (ai × Heap) :=
 match h.get A with
 |some (.loop env ps assign body _ _)=>some (.bool jump.isNone,h.set A (.loop env ps assign body (if jump.isNone then .ready else .done) jump))
 |_=>none
def zR (E:Code->Env->Heap->Option (Ex × Env × Heap)) (A:Nat) (args:List ai) (h:Heap):Option (ai × Heap) :=
 match h.get A with
 |some (.loop env ps assign body _ _) =>
  if args.length=ps.length then
   match E assign (gK env ps args) h with
   |some (.normal,e1,h1)=>match h1.get A with
    |some (.loop oT Cq mB sJ .ready iX) =>
     (match E body e1 (h1.set A (.loop oT Cq mB sJ .busy iX)) with
     |some (.normal,_,h2)=>zC A none h2
     |some (.ret,_,h2)=>zC A (some .ret) h2
     |some (.exit id,_,h2)=>zC A (some (.exit id)) h2
     |none=>none)
    |_=>none
   |_=>none
  else none
 |_=>none

def UI (d:Oper):Option Tmp:=match d.op with
 | .defer ⟨.value (.tmp t),args,_⟩=>if args.isEmpty && d.guard.isNone && d.dst.isNone then some t else none
 |_=>none
def yl:Code->Option (List Code × Oper × Tmp × Code)
 | .seq (.region id ops false) b=>(match ops.toList with
  | [m,d]=>(match UI d with
   |some t=>if m.guard.isNone then some ([],m,t,b) else (yl b).map λ(pre,m,t,r)=>(.region id ops false::pre,m,t,r)
   |none=>(yl b).map λ(pre,m,t,r)=>(.region id ops false::pre,m,t,r))
  |_=>(yl b).map λ(pre,m,t,r)=>(.region id ops false::pre,m,t,r))
 | .seq a b=>(yl b).map λ(pre,m,t,r)=>(a::pre,m,t,r)
 |_=>none
def uJ (E:Code->Env->Heap->Option (Ex × Env × Heap)):List Code->Env->Heap->Option (Env × Heap)
 | [],e,h=>some (e,h)
 |c::cs,e,h=>match E c e h with
  |some (.normal,e',h')=>uJ E cs e' h'
  |_=>none
section
variable (P:Program) (T:bx)
def rI (E:Code->Env->Heap->Option (Ex × Env × Heap)) (fn:Func) (g:ai) (e3:Env) (h3:Heap):Option (ai × Heap) :=
 match g with
 | .func (.func g) fi ca=>(T.fn g).bind λfg=>fg.body.bind λcg=>if kN cg then
  (match E cg ((fi.toList++ca.toList)++List.replicate (fg.ntmps - (fi.toList++ca.toList).length) undef) h3 with
  |some (.ret,e4,h4)=>(lL T fg e4 h4).bind λ_=>(lL T fn e3 h4).map λv=>(v,h4)
  |some (.normal,e4,h4)=>(lL T fg e4 h4).bind λ_=>(lL T fn e3 h4).map λv=>(v,h4)
  |_=>none)
  else none
 |_=>none
def zT (E:Code->Env->Heap->Option (Ex × Env × Heap)) (C:Fn->List ai->Heap->Option (ai × Heap)) (fn:Func) (c:Code) (e:Env) (h:Heap):Option (ai × Heap) :=
 (yl c).bind λ(pre,m,t,rest)=>if pre.all kN && kN rest then
  (uJ E pre e h).bind λ(e1,h1)=>(gq P T C e1 m h1).bind λ(v,h2) =>
   match E rest (put e1 m.dst v) h2 with
   |some (.ret,e3,h3)=>rI T E fn ((put e1 m.dst v).get t) e3 h3
   |some (.normal,e3,h3)=>rI T E fn ((put e1 m.dst v).get t) e3 h3
   |_=>none
 else none
end

def call (P:Program) (T:bx) (ov:Ov):Nat->Fn->List ai->Heap->Option (ai × Heap)
 |0,_,_,_=>none
 |n+1,.func f,args,h =>
  match ov f with
  |some g=>g args h
  |none =>
   (T.fn f).bind λfn=>fn.body.bind λc =>
   if T.Gc f then zT P T (du P T (call P T ov n) (nX P T (call P T ov n)) none n) (call P T ov n) fn c (args++List.replicate (fn.ntmps - args.length) undef) h else
   match du P T (call P T ov n) (nX P T (call P T ov n)) none n c (args++List.replicate (fn.ntmps - args.length) undef) h with
   |some (.ret,e,h')=>(lL T fn e h').map λv=>(v,h')
   |some (.normal,e,h')=>(lL T fn e h').map λv=>(v,h')
   |_=>none
 |n+1,.yield A,args,h=>zR (du P T (call P T ov n) (nX P T (call P T ov n)) (some A) n) A args h
 |_,_,_,_=>none

def yD (P:Program) (gs:List Nat) (ov:Ov):Prop :=
 ∀ f g,ov f=some g->∀ args h v h',g args h=some (v,h')->bh h h'/\∀ ρ w (aI:Array ai),cE gs ρ->bB ρ h w->el ρ h h'->cm ρ args aI.toList->Va P ρ h h' w v f aI

section
variable {P:Program} {T:bx} {ov:Ov}

theorem zkh (hg:qB C) {ops:Array Oper} (l:List Oper) (e e':Env) (h h':Heap) (ks:List Nat) (aj:oD P T C ops l e h=some (ks,e',h')):bh h h':=by
 induction l generalizing e h ks with
 |nil=>simp only [oD,dy,cx] at aj;obtain ⟨_,_,rfl⟩:=aj;exact .refl _
 |cons o l ih =>
  simp only [oD] at aj
  split at aj
  .split at aj
   .rename_i v h2 hr
    simp only [bX,Prod.exists,cx] at aj
    obtain ⟨dD,x1,x2,cv,_,rfl,rfl⟩:=aj
    have hk:=CB hg hr
    refine bh.trans ?_ (ih _ _ _ cv)
    exact ⟨hk.size,wk _ _,λA h3 h4=>hk.get A h3 (dU h4 (E4 _ _))⟩
   .cases aj
  .simp only [bX,Prod.exists,cx] at aj
   obtain ⟨dD,x1,x2,cv,_,rfl,rfl⟩:=aj
   exact ih _ _ _ cv

theorem CE (hg:qB C):UQ (nX P T C):=by
 intro ops e h e' h' aj
 unfold nX at aj
 split at aj
 .rename_i hr
  split at aj
  .cases aj;exact zkh hg _ _ _ _ _ _ hr
  .cases aj
 .cases aj

theorem LN {A:Nat} {jump:Option Code} (aj:zC A jump h=some (v,h')):bh h h':=by
 unfold zC at aj
 split at aj
 .rename_i hg;cases aj;exact .set _ (Heap.au hg)
 .cases aj
theorem zob (hE:∀ c e h x e' h',E c e h=some (x,e',h')->bh h h') {A:Nat} {args:List ai} (aj:zR E A args h=some (v,h')):bh h h':=by
 unfold zR at aj
 split at aj
 .split at aj
  .split at aj
   .rename_i h1 pj
    split at aj
    .rename_i wY
     have hk:∀ b,bh h (h1.set A b):=λb=>(hE _ _ _ _ _ _ pj).trans (bh.set b (Heap.au wY))
     split at aj
     .rename_i eQ;exact ((hk _).trans (hE _ _ _ _ _ _ eQ)).trans (LN aj)
     .rename_i eQ;exact ((hk _).trans (hE _ _ _ _ _ _ eQ)).trans (LN aj)
     .rename_i eQ;exact ((hk _).trans (hE _ _ _ _ _ _ eQ)).trans (LN aj)
     .cases aj
    .cases aj
   .cases aj
  .cases aj
 .cases aj

theorem LJ {E:Code->Env->Heap->Option (Ex × Env × Heap)} (hE:∀ c e h x e' h',E c e h=some (x,e',h')->bh h h'):∀ (pre:List Code) (e e':Env) (h h':Heap),uJ E pre e h=some (e',h')->bh h h'
 | [],e,e',h,h',aj=>by simp only [uJ,dy,cx] at aj;obtain ⟨_,rfl⟩:=aj;exact .refl _
 |c::cs,e,e',h,h',aj=>by
  simp only [uJ] at aj
  split at aj
  .rename_i hr
   exact (hE _ _ _ _ _ _ hr).trans (LJ hE cs _ _ _ _ aj)
  .cases aj
theorem CC (hE:∀ c e h x e' h',E c e h=some (x,e',h')->bh h h') {g:ai} {e3:Env} {h3:Heap} (aj:rI T E fn g e3 h3=some (v,h')):bh h3 h':=by
 unfold rI at aj
 split at aj
 .simp only [ck] at aj
  obtain ⟨fg,_,cg,_,aj⟩:=aj
  split at aj
  .split at aj
   .rename_i hr
    simp only [ck,bX,cx] at aj
    obtain ⟨_,_,_,_,_,rfl⟩:=aj
    exact hE _ _ _ _ _ _ hr
   .rename_i hr
    simp only [ck,bX,cx] at aj
    obtain ⟨_,_,_,_,_,rfl⟩:=aj
    exact hE _ _ _ _ _ _ hr
   .cases aj
  .cases aj
 .cases aj
theorem zng (hC:qB C) (hE:∀ c e h x e' h',E c e h=some (x,e',h')->bh h h') {c:Code} {e:Env} (aj:zT P T E C fn c e h=some (v,h')):bh h h':=by
 unfold zT at aj
 simp only [ck,Prod.exists] at aj
 obtain ⟨pre,m,t,rest,_,aj⟩:=aj
 split at aj
 .simp only [ck,Prod.exists] at aj
  obtain ⟨e1,h1,hp,v1,h2,ho,aj⟩:=aj
  split at aj
  .rename_i hr
   exact (((LJ hE _ _ _ _ _ hp).trans (CB hC ho)).trans (hE _ _ _ _ _ _ hr)).trans (CC hE aj)
  .rename_i hr
   exact (((LJ hE _ _ _ _ _ hp).trans (CB hC ho)).trans (hE _ _ _ _ _ _ hr)).trans (CC hE aj)
  .cases aj
 .cases aj
theorem zky {gs:List Nat} (gb:yD P gs ov):∀ n,qB (call P T ov n)
 |0=>by intro f args h v h' aj;simp [call] at aj
 |n+1=>by
  intro f args h v h' aj
  have ih:=zky gb n
  cases f with
  |func f =>
   simp only [call] at aj
   split at aj
   .rename_i g hg
    exact (gb f g hg args h v h' aj).1
   .simp only [ck] at aj
    obtain ⟨fn,_,c,_,aj⟩:=aj
    split at aj
    .exact zng ih (λc e h x e' h' hr=>CD ih (CE ih) _ _ _ _ _ _ _ _ hr) aj
    split at aj
    .rename_i hr
     simp only [bX,cx] at aj
     obtain ⟨_,_,_,rfl⟩:=aj
     exact CD ih (CE ih) _ _ _ _ _ _ _ _ hr
    .rename_i hr
     simp only [bX,cx] at aj
     obtain ⟨_,_,_,rfl⟩:=aj
     exact CD ih (CE ih) _ _ _ _ _ _ _ _ hr
    .cases aj
  |yield A =>
   simp only [call] at aj
   exact zob (λc e h x e' h' hr=>CD ih (CE ih) _ _ _ _ _ _ _ _ hr) aj
  |_=>simp [call] at aj

theorem bO.enter {args:List ai} {aI:Array ai} (hv:cm ρ args aI.toList) (n:Nat):bO ρ (args++List.replicate (n - args.length) undef) (aI++Array.replicate (n - aI.size) undef):=by
 have hl:args.length=aI.size:=by simpa using hv.1
 refine ⟨by simp [hl],λi=>?_⟩
 rw [Env.get_eq]
 rcases ln i args.length with h1|h1
 .rw [kY h1]
  have hx:args[i]? = some args[i]:=i4 h1
  obtain ⟨y,hy,cJ⟩:=hv.get hx
  have h2:i < aI.size:=by omega
  have e1:(aI++Array.replicate (n - aI.size) undef).getD i undef=y:=by
   have h3:aI[i]? = some y:=by simpa using hy
   simp [Array.getElem?_append_left h2,h3]
  rw [e1,hx]
  exact cJ
 .rw [n9 h1]
  have e1:(aI++Array.replicate (n - aI.size) undef).getD i undef=undef:=by
   have h3:aI.size<=i:=by omega
   simp only [Array.getD_eq_getD_getElem?,Array.getElem?_append_right h3]
   by_cases h4:i - aI.size < n - aI.size
   .simp [h4]
   .simp [h4]
  rw [e1]
  by_cases h4:i - args.length < n - args.length
  .simp [h4];exact .undef ρ
  .simp [h4];exact .undef ρ

theorem bO.set {ρ:cf} {e:Env} {tmps:Array ai} (he:bO ρ e tmps) {v u:ai} (hv:VR ρ v u) (d:Nat):bO ρ (Env.set e d v) (tmps.setIfInBounds d u):=by
 have:=bO.put (a:={ tmps:=tmps,defers:=[] }) he hv (some d)
 exact this

theorem bO.gK {ρ:cf}:∀ (ps:List Tmp) (args:List ai) (aI:List ai) (e:Env) (tmps:Array ai),bO ρ e tmps->cm ρ args aI->bO ρ (Am.gK e ps args) ((ps.zip aI).foldl (λtmps (t,a)=>tmps.setIfInBounds t a) tmps)
 | [],args,aI,e,tmps,he,_=>by cases args <;> exact he
 |t::ps,[],aI,e,tmps,he,hv=>by rw [hv.of_nil];exact he
 |t::ps,v::args,aI,e,tmps,he,hv=>by
  obtain ⟨u,m,rfl,h1,h2⟩:=hv.of_cons
  exact bO.gK ps args m _ _ (he.set h1 t) h2

theorem ZV {ρ:cf} {h:Heap} {fn:Func} {tmps:Array ai} {R:Ending->World->Prop} {n0:Nat}:∀ (rs:List Nat) (w:World),rs.Nodup->(∀ r∈rs,n0<=r/\w.heap[r]? = some (.deferred (some []))/\∀ A L,ρ A=some L->L.b≠r)->bB ρ h w ->
 (∀ w',bB ρ h w'->w'.os=w.os->w'.tape=w.tape->w'.output=w.output->w'.heap.size=w.heap.size->(∀ b,(b < n0\/∃ A L,ρ A=some L/\L.b=b)->w'.heap[b]? = w.heap[b]?)->∃ v,(results fn tmps).run P w'=.ok v w'/\R (.returned v) w') ->
 LeavesInM Fence.wide 0 P fn tmps R (rs.map λr=>{ target:=.collected r,args:=#[] }) .returning w
 | [],w,_,_,hs,hR=>hR w hs rfl rfl rfl rfl (λ_ _=>rfl)
 |r::rs,w,Li,aD,hs,hR=>by
  obtain ⟨a1,a2,a3⟩:=aD r (by simp)
  have aW:r < w.heap.size:=(kX.1 a2).1
  refine ⟨by simp,.inl ⟨r,_,rfl,run_takeDeferred a2,?_⟩⟩
  obtain ⟨Hg,BE⟩:=List.nodup_cons.1 Li
  have dC:(w.putObj r (.deferred none)).heap.size=w.heap.size:=by rw [L3];simp
  refine ZV (n0:=n0) rs _ BE (λq hq=>?_) ⟨λA L hA=>(hs.jV A L hA).ft (λ_ _ h=>h) (by rw [dC];exact aS _) (λ_=>LP (a3 A L hA)),hs.inj⟩ λw' jl h1 h2 h3 h4 h5=>?_
  .obtain ⟨b1,b2,b3⟩:=aD q (by simp [hq])
   exact ⟨b1,(LP (λ(e:q=r)=>Hg (e ▸ hq))).trans b2,b3⟩
  .refine hR w' jl h1 h2 h3 (h4.trans dC) λb hb=>(h5 b hb).trans (LP λe=>?_)
   subst e
   rcases hb with hb|⟨A,L,hA,hb⟩
   .omega
   .exact a3 A L hA hb

inductive i9 (m:Oper) (t:Tmp) (rest:Code):List Code->Code->Prop where
 |here (id:Nat) (ops:Array Oper) (d:Oper) (args:Array Operand) (fY:Array TypeId):ops.toList=[m,d]->d.op=.defer ⟨.value (.tmp t),args,fY⟩->args.isEmpty=true->m.guard=none->d.guard=none->d.dst=none->i9 m t rest [] (.seq (.region id ops false) rest)
 |step (a b:Code) (pre:List Code):i9 m t rest pre b->i9 m t rest (a::pre) (.seq a b)
theorem zni {d:Oper} {t:Tmp} (h:UI d=some t):∃ args fY,d.op=.defer ⟨.value (.tmp t),args,fY⟩/\args.isEmpty=true/\d.guard=none/\d.dst=none:=by
 unfold UI at h
 split at h
 .rename_i t' args fY aN
  split at h
  .rename_i hc
   cases h
   simp only [dj,Option.isNone_iff_eq_none] at hc
   exact ⟨args,fY,aN,hc.1.1,hc.1.2,hc.2⟩
  .cases h
 .cases h
theorem zp6:∀ (c:Code) (pre:List Code) (m:Oper) (t:Tmp) (rest:Code),yl c=some (pre,m,t,rest)->i9 m t rest pre c:=by
 intro c
 induction c with
 |seq a b _ hH =>
  intro pre m t rest h
  have cq:∀ (a:Code),((yl b).map λ(pre,m,t,r)=>(a::pre,m,t,r))=some (pre,m,t,rest)->i9 m t rest pre (.seq a b):=by
   intro a hm
   simp only [bX,Prod.exists,cx] at hm
   obtain ⟨Sp,m',t',r',hs,rfl,rfl,rfl,rfl⟩:=hm
   exact .step a b Sp (hH _ _ _ _ hs)
  unfold yl at h
  split at h
  .rename_i id ops b' heq
   cases heq
   split at h
   .rename_i m' d xq
    split at h
    .rename_i t' hd
     split at h
     .rename_i hg
      simp only [dy,cx] at h
      obtain ⟨rfl,rfl,rfl,rfl⟩:=h
      obtain ⟨args,fY,h1,h2,h3,h4⟩:=zni hd
      exact .here id ops d args fY xq h1 h2 (by simpa using hg) h3 h4
     .exact cq _ h
    .exact cq _ h
   .exact cq _ h
  .rename_i a' b' _ heq
   cases heq
   exact cq _ h
  .cases h
 |_=>intro pre m t rest h;simp [yl] at h

theorem znh (hT:T.Fits P) {gs:List Nat} (hC:CS P gs C) (hg:qB C) 
 (hE:∀ (n0:Nat) (B:List Deferred) (c:Code) (e:Env) (h:Heap) (x:Ex) (e':Env) (h':Heap) (ρ:cf) (a:Act) (w:World) (Q:Exit->Act->World->Prop),E c e h=some (x,e',h')->cd ρ c->(true=true->kN c=true)->cE gs ρ->bB ρ h w->el ρ h h'->bO ρ e a.tmps->Marks n0 B true ρ w a.defers->DE ρ none none->n0<=w.heap.size ->
  (∀ ρ' a' w',Fr ρ ρ' h h' w w'->bB ρ' h' w'->bO ρ' e' a'.tmps->Marks n0 B true ρ' w' a'.defers->Q x.to a' w')->c.wpIn (WR none) 0 P Q a w)
 (vk:∀ c e h x e' h',E c e h=some (x,e',h')->bh h h')
 {c:Code} {e:Env} {w:World} {tmps:Array ai} (wZ:∀ g fg cg,T.fn g=some fg->fg.body=some cg->oE gs cg=true) (cX:cd ρ c) (hG:cE gs ρ) (hs:bB ρ h w) (hf:el ρ h h') (he:bO ρ e tmps)
 (aj:zT P T E C fn c e h=some (v,h')) :
 c.wpIn Fence.wide 0 P (bodyPostM Fence.wide 0 P fn λed w'=>∃ ρ' u,ed=.returned u/\Fr ρ ρ' h h' w w'/\bB ρ' h' w'/\VR ρ' v u) { tmps,defers:=[] } w:=by
 have key:∀ (pre:List Code) (m:Oper) (t:Tmp) (rest:Code) (c:Code),i9 m t rest pre c->∀ (e:Env) (h1:Heap) (ρ1:cf) (w1:World) (a:Act),pre.all kN=true->kN rest=true->cd ρ1 c->cE gs ρ1->bB ρ1 h1 w1->el ρ1 h1 h'->bO ρ1 e a.tmps->a.defers=[]->Fr ρ ρ1 h h1 w w1 ->
  ((uJ E pre e h1).bind λ(e1,h1)=>(gq P T C e1 m h1).bind λ(v,h2) =>
    match E rest (put e1 m.dst v) h2 with
    |some (.ret,e3,h3)=>rI T E fn ((put e1 m.dst v).get t) e3 h3
    |some (.normal,e3,h3)=>rI T E fn ((put e1 m.dst v).get t) e3 h3
    |_=>none)=some (v,h') ->
  c.wpIn Fence.wide 0 P (bodyPostM Fence.wide 0 P fn λed w'=>∃ ρ' u,ed=.returned u/\Fr ρ ρ' h h' w w'/\bB ρ' h' w'/\VR ρ' v u) a w1:=by
  intro pre m t rest c cY
  induction cY with
  |step a0 b0 agZ _ ih =>
   intro e h1 ρ1 w1 a mP fP cX hG hs hf he hd dm aj
   simp only [gA,dj] at mP
   simp only [uJ,ck,Prod.exists] at aj
   obtain ⟨e2,h2,hp,aj⟩:=aj
   split at hp
   .rename_i e3 h3 hr
    have pe:bh h3 h':=by
     obtain ⟨v2,h4,ho,aj⟩:=aj
     have k1:=LJ vk _ _ _ _ _ hp
     have k2:=CB hg ho
     split at aj
     .rename_i eQ;exact ((k1.trans k2).trans (vk _ _ _ _ _ _ eQ)).trans (CC vk aj)
     .rename_i eQ;exact ((k1.trans k2).trans (vk _ _ _ _ _ _ eQ)).trans (CC vk aj)
     .cases aj
    refine wpIn_seq ?_
    refine hE w1.heap.size [] a0 e h1 .normal e3 h3 ρ1 a w1 _ hr cX.1 (λ_=>mP.1) hG hs (hf.left pe.size) he (by rw [hd];exact Marks.nil) trivial (aS _) λρ2 a2 w2 f2 s2 r2 d2=>?_
    obtain ⟨rs,m1,_,m2,_⟩:=d2
    rw [m2 rfl] at m1
    refine ih e3 h3 ρ2 w2 a2 mP.2 fP (cX.2.mono f2.grow) (hG.mono f2.grow) s2 (hf.right f2) r2 (by simpa using m1) (dm.trans f2) ?_
    simp only [ck,Prod.exists]
    exact ⟨e2,h2,hp,aj⟩
   .cases hp
  |here id ops d args fY xq aN dE hmg K6 Qo =>
   intro e h1 ρ1 w1 a _ fP cX hG hs hf he hd dm aj
   simp only [uJ,ck,Prod.exists,dy,cx] at aj
   obtain ⟨e1,bW,⟨rfl,rfl⟩,v1,h2,ho,aj⟩:=aj
   have DU:bh h2 h':=by
    split at aj
    .rename_i eQ;exact (vk _ _ _ _ _ _ eQ).trans (CC vk aj)
    .rename_i eQ;exact (vk _ _ _ _ _ _ eQ).trans (CC vk aj)
    .cases aj
   refine wpIn_seq (wpIn_region_list ?_)
   rw [xq]
   have Ra:ja ρ1 m:=cX.1 m (by rw [xq];simp)
   have hwm:Region.wanted m (yielded ops a.tmps)=true:=by simp [Region.wanted,hmg]
   rw [wpListIn,aG hwm]
   have tP:=Ee hT hC hG hs he Ra (hf.left DU.size) ho
   refine tP.wp (rl:=none) (Ea ho) λρ2 u w2 f2 s2 v2=>?_
   have wT:bO ρ2 (put e m.dst v1) (a.put m.dst u).tmps:=(he.mono f2.grow).put v2 m.dst
   have jw:(a.put m.dst u).defers=[]:=by cases m.dst <;> exact hd
   have hwd:Region.wanted d (yielded ops (a.put m.dst u).tmps)=true:=by simp [Region.wanted,K6]
   rw [wpListIn,aG hwd]
   have Bu:=wT.2 t
   have BA:∃ x e3 h3,(x=Ex.ret\/x=.normal)/\E rest (put e m.dst v1) h2=some (x,e3,h3)/\rI T E fn ((put e m.dst v1).get t) e3 h3=some (v,h'):=by
    split at aj
    .rename_i e3 h3 eQ;exact ⟨_,e3,h3,.inl rfl,eQ,aj⟩
    .rename_i e3 h3 eQ;exact ⟨_,e3,h3,.inr rfl,eQ,aj⟩
    .cases aj
   obtain ⟨x,e3,h3,hx,eQ,dG⟩:=BA
   unfold rI at dG
   split at dG
   .rename_i g fi ca w5
    rw [w5] at Bu
    generalize P9:(a.put m.dst u).tmps.getD t undef=ag at Bu
    cases Bu with
    |func _ q1 q2 q3 q4 =>
     rename_i yM yJ
     have rm:cm ρ2 fi.toList yM.toList:=⟨by simpa using q1,λi x y hx hy=>q3 i x y (by simpa using hx) (by simpa using hy)⟩
     have rp:cm ρ2 ca.toList yJ.toList:=⟨by simpa using q2,λi x y hx hy=>q4 i x y (by simpa using hx) (by simpa using hy)⟩
     simp only [ck] at dG
     obtain ⟨fg,GR,cg,K4,dG⟩:=dG
     split at dG
     .rename_i kA
      have hae:(a.put m.dst u).eval (.tmp t)=.func (.func g) yM yJ:=P9
      have iT:(execOp (a.put m.dst u).eval d).run P w2=.ok (.defer { target:=.fn (.func g) yJ,args:=yM }) w2:=by
       have AW:args=#[]:=by simpa using dE
       simp [execOp,aN,resolve,hae,Deferred.ofValue,AW]
      refine ⟨λfq hq=>trivial,?_⟩
      rw [show Oper.semAt Fence.wide.round (a.put m.dst u).eval d=execOp (a.put m.dst u).eval d from rfl,iT]
      simp only [Oper.uponIn,wpListIn,Qo,jw]
      have pe:bh h3 h':=CC vk (show rI T E fn (.func (.func g) fi ca) e3 h3=some (v,h') by unfold rI;simp only [GR,dz,K4,kA,if_true];exact dG)
      refine hE w2.heap.size [{ target:=.fn (.func g) yJ,args:=yM }] rest _ _ _ _ _ ρ2 _ w2 _ eQ (cX.2.mono f2.grow) (λ_=>fP) (hG.mono f2.grow) s2 ((hf.right f2).left pe.size) wT Marks.nil trivial (aS _) λρ3 a3 w3 f3 s3 r3 d3=>?_
      obtain ⟨rs,m1,_,m2,_⟩:=d3
      rw [m2 rfl] at m1
      have m1':a3.defers=[{ target:=.fn (.func g) yJ,args:=yM }]:=by simpa using m1
      have hl:LeavesInM Fence.wide 0 P fn a3.tmps (λed w'=>∃ ρ' u,ed=.returned u/\Fr ρ ρ' h h' w w'/\bB ρ' h' w'/\VR ρ' v u) a3.defers .returning w3:=by
       rw [m1']
       obtain ⟨WK,gH,_⟩:=hT.fn g fg GR
       have eE:¬ fg.name="runtime.NumGoroutine":=by simpa using gH
       refine ⟨by simp,.inr ⟨(λhh=>by cases hh),_,_,g,yM++yJ,rfl,?_,λ_ _=>trivial,?_⟩⟩
       .show (callFunc g (yM++yJ)).run P w3=_
        simp [callFunc,WK,eE,K4]
       .have fS:cm ρ3 (fi.toList++ca.toList) (yM++yJ).toList:=by
         have:=(rm.append rp).mono f3.grow
         simpa using this
        have heg:=bO.enter fS fg.ntmps
        have Ht:∃ y e4 h4 vg,(y=Ex.ret\/y=.normal)/\E cg ((fi.toList++ca.toList)++List.replicate (fg.ntmps - (fi.toList++ca.toList).length) undef) h3=some (y,e4,h4)/\lL T fg e4 h4=some vg/\lL T fn e3 h4=some v/\h4=h':=by
         split at dG
         .rename_i e4 h4 Hr
          simp only [ck,bX,cx] at dG
          obtain ⟨vg,vz,v',rk,rfl,rfl⟩:=dG
          exact ⟨_,e4,h4,vg,.inl rfl,Hr,vz,rk,rfl⟩
         .rename_i e4 h4 Hr
          simp only [ck,bX,cx] at dG
          obtain ⟨vg,vz,v',rk,rfl,rfl⟩:=dG
          exact ⟨_,e4,h4,vg,.inr rfl,Hr,vz,rk,rfl⟩
         .cases dG
        obtain ⟨y,e4,h4,vg,hy,Hr,vz,hvf,rfl⟩:=Ht
        refine (callsDIn_of_wp (R:=λed w'=>∃ u,ed=.returned u/\∃ vr,(results fn a3.tmps).run P w'=.ok vr w'/\∃ ρ' u',Ending.returned vr=.returned u'/\Fr ρ ρ' h h4 w w'/\bB ρ' h4 w'/\VR ρ' v u') WK K4 trivial ?_).mono ?_
        .refine hE w3.heap.size [] cg _ _ _ _ _ ρ3 _ w3 _ Hr (.of (hG.mono (f2.trans f3).grow) (wZ g fg cg GR K4)) (λ_=>kA) (hG.mono (f2.trans f3).grow) s3 ((hf.right f2).right f3) heg Marks.nil trivial (aS _) λρ4 a4 w4 f4 s4 r4 d4=>?_
         obtain ⟨rs4,n1,_,n2,_⟩:=d4
         rw [n2 rfl] at n1
         have n1':a4.defers=[]:=by simpa using n1
         obtain ⟨ug,hug,_⟩:=SU hT s4 r4 vz
         obtain ⟨uf,huf,RH⟩:=SU hT s4 (r3.mono f4.grow) hvf
         have WX:a4.defers=[]/\∃ vv,(results fg a4.tmps).run P w4=.ok vv w4/\∃ u,Ending.returned vv=.returned u/\∃ vr,(results fn a3.tmps).run P w4=.ok vr w4/\∃ ρ' u',Ending.returned vr=.returned u'/\Fr ρ ρ' h h4 w w4/\bB ρ' h4 w4/\VR ρ' v u' :=
          ⟨n1',ug,hug,ug,rfl,uf,huf,ρ4,uf,rfl,((dm.trans f2).trans f3).trans f4,s4,RH⟩
         rcases hy with rfl|rfl
         .exact WX
         .exact WX
        .rintro ed u' w' ⟨rfl,uu,rfl,vr,D1,hR⟩
         exact ⟨vr,D1,hR⟩
      rcases hx with rfl|rfl
      .exact hl
      .exact hl
     .cases dG
   .cases dG
 unfold zT at aj
 simp only [ck,Prod.exists] at aj
 obtain ⟨pre,m,t,rest,cY,aj⟩:=aj
 split at aj
 .rename_i kA
  simp only [dj] at kA
  exact key pre m t rest c (zp6 _ _ _ _ _ cY) e h ρ w _ kA.1 kA.2 cX hG hs hf he rfl (Fr.refl _ _ _) aj
 .cases aj

theorem Tz (jk:P.follows .mixedOrders=true) (hT:T.Fits P) (gb:yD P T.gs ov):∀ n,CS P T.gs (call P T ov n)
 |0=>by
  refine ⟨?_,?_⟩
  .intro f args h v h' aj;simp [call] at aj
  .intro f args h v h' aj;simp [call] at aj
 |n+1=>by
  have HR:=Tz jk hT gb n
  have ld:=zky (T:=T) gb n
  have te:=λ(rd rl:Option Nat) (n0:Nat)=>Zt hT HR ld (Zu jk hT HR ld) (CE ld) rd rl n0 [] false n
  have tw:=λ(rd:Option Nat)=>CD (P:=P) (T:=T) ld (CE (P:=P) (T:=T) ld) rd n
  refine ⟨?_,?_⟩
  .intro f args h v h' aj ρ w aI hG hs hf hv
   simp only [call] at aj
   split at aj
   .rename_i g hg
    exact (gb f g hg args h v h' aj).2 ρ w aI hG hs hf hv
   .simp only [ck] at aj
    obtain ⟨fn,kx,c,hc,aj⟩:=aj
    obtain ⟨hP,gH,cX⟩:=hT.fn f fn kx
    right
    refine ⟨?_,?_⟩
    .have eE:¬ fn.name="runtime.NumGoroutine":=by simpa using gH
     simp [callFunc,hP,eE,hc]
    .refine callsIn_wide.1 (callsIn_of_wp_marks (n:=0) hP hc trivial ?_)
     have he:=bO.enter hv fn.ntmps
     have go:∀ (x:Ex) (e:Env) (h2:Heap),x=.ret\/x=.normal->du P T (call P T ov n) (nX P T (call P T ov n)) none n c (args++List.replicate (fn.ntmps - args.length) undef) h=some (x,e,h2) ->
      (lL T fn e h2).map (λv=>(v,h2))=some (v,h')->c.wpIn Fence.wide 0 P (bodyPostM Fence.wide 0 P fn λed w'=>∃ ρ' u,ed=.returned u/\Fr ρ ρ' h h' w w'/\bB ρ' h' w'/\VR ρ' v u) { tmps:=aI++Array.replicate (fn.ntmps - aI.size) undef,defers:=[] } w:=by
      intro x e h2 hx hr iT
      simp only [bX,cx] at iT
      obtain ⟨v',iT,rfl,rfl⟩:=iT
      refine te none none w.heap.size c _ _ _ _ _ ρ _ w _ hr (.of hG (cX c hc)) (λq=>by cases q) hG hs hf he Marks.nil trivial (aS _) λρ' a' w' f1 s1 e1 d1=>?_
      obtain ⟨rs,m1,m2,_,m3⟩:=d1
      rw [bu] at m1
      have hl:LeavesInM Fence.wide 0 P fn a'.tmps (λed w'=>∃ ρ' u,ed=.returned u/\Fr ρ ρ' h h2 w w'/\bB ρ' h2 w'/\VR ρ' v' u) a'.defers .returning w':=by
       rw [m1]
       refine ZV rs w' m2 m3 s1 λw2 s2 q1 q2 q3 q4 q5=>?_
       obtain ⟨u,hu,nj⟩:=SU hT s2 e1 iT
       refine ⟨u,hu,ρ',u,rfl,⟨f1.grow,f1.fresh,q1.trans f1.os,q2.trans f1.tape,q3.trans f1.output,by rw [q4];exact f1.size,f1.fR,f1.low,λb hb aD=>?_,f1.pX⟩,s2,nj⟩
       exact (q5 b (.inl hb)).trans (f1.ft b hb aD)
      rcases hx with rfl|rfl
      .exact hl
      .exact hl
     split at aj
     .exact znh hT HR ld (λn0 B c e h x e' h' ρ a w Q=>Zt hT HR ld (Zu jk hT HR ld) (CE ld) none none n0 B true n c e h x e' h' ρ a w Q) (λc e h x e' h' hr=>tw none c e h x e' h' hr) (λg fg cg h1 h2=>(hT.fn g fg h1).2.2 cg h2) (.of hG (cX c hc)) hG hs hf he aj
     split at aj
     .rename_i e h2 hr;exact go .ret e h2 (.inl rfl) hr aj
     .rename_i e h2 hr;exact go .normal e h2 (.inr rfl) hr aj
     .cases aj
  .intro A args h v h' aj ρ w aI L hA hG hs hf hv
   simp only [call] at aj
   unfold zR at aj
   split at aj
   .rename_i env ps assign body st eF hg
    split at aj
    .rename_i hlen
     split at aj
     .rename_i e1 h1 pj
      split at aj
      .rename_i oT Cq mB sJ iX wY
       obtain ⟨lo,l1,l2,l3,l4,l5,l6,l7,l8,l9,_⟩:=Jp hs hA hg
       have kn:args.length=aI.size:=by simpa using hv.1
       have tK:lo.params.size=ps.length:=by rw [<- l4];simp
       refine ⟨lo.fn,(lo.params.zip aI).foldl (λtmps (t,a)=>tmps.setIfInBounds t a) lo.tmps,lo.assign,lo.body,?_,?_⟩
       .simp only [Instr.yield,Sem.run_bind,run_getLoop l1,Result.andThen_ok]
        rw [aA (by omega)]
        simp
       .have key:∀ (x:Ex) (e2:Env) (h2:Heap) (jump:Option Code),du P T (call P T ov n) (nX P T (call P T ov n)) (some A) n body e1 (h1.set A (.loop oT Cq mB sJ .busy iX))=some (x,e2,h2) ->
         (jump=match x with | .normal=>none | .ret=>some .ret | .exit id=>some (.exit id))->zC A jump h2=some (v,h')->RoundIn Fence.wide 0 P L.b lo.fn ((lo.params.zip aI).foldl (λtmps (t,a)=>tmps.setIfInBounds t a) lo.tmps) lo.assign lo.body w λed w'=>∃ ρ' u,ed=.returned u/\Fr ρ ρ' h h' w w'/\bB ρ' h' w'/\VR ρ' v u:=by
         intro x e2 h2 jump eQ tu tk
         have k1:=tw (some A) _ _ _ _ _ _ pj
         have k2:=tw (some A) _ _ _ _ _ _ eQ
         have k3:=LN tk
         have s1:=k2.size
         have s2:=k3.size
         rw [Heap.size_set] at s1
         refine roundIn_of_wpIn (F:=Fence.wide) trivial ?_
         have tj:bO ρ (gK env ps args) ((lo.params.zip aI).foldl (λtmps (t,a)=>tmps.setIfInBounds t a) lo.tmps):=by
          have:=bO.gK ps args aI.toList env lo.tmps l7 hv
          rw [<- Array.foldl_toList,Array.toList_zip,l4]
          exact this
         rw [l5]
         refine te (some A) (some L.b) w.heap.size assign _ _ _ _ _ ρ _ w _ pj l8 (λq=>by cases q) hG hs (hf.left (by omega)) tj Marks.nil ⟨L,hA,rfl⟩ (aS _) λρ1 a1 w1 f1 sm1 en1 d1=>?_
         have lS:=f1.grow A L hA
         obtain ⟨XC,p1,p2,p3,p4,p5,p6,p7,p8,p9,p10⟩:=Jp sm1 lS wY
         obtain ⟨f2,XW⟩:=p10 .busy iX
         have QT:({ XC with state:=LoopState.busy,pending:=iX }:Loop)={ XC with state:=LoopState.busy }:=by subst p3;rfl
         rw [QT] at f2 XW
         refine ⟨_,run_beginRound p1 p2,?_⟩
         rw [l6]
         refine te (some A) (some L.b) w.heap.size body _ _ _ _ _ ρ1 a1 _ _ eQ (l9.mono f1.grow) (λq=>by cases q) (hG.mono f1.grow) XW ?_ en1 (d1.step f2) ⟨L,lS,rfl⟩ (dZ f1.size f2.size) λρ3 a3 w3 f3 sm3 en3 d3=>?_
         .have dm:el ρ1 h1 h2:=((hf.left (by omega)).right f1)
          exact dm
         .have jH:=f3.grow A L lS
          unfold zC at tk
          split at tk
          .rename_i Gg XM pY yF D8 XL Qz
           cases tk
           obtain ⟨Cm,z1,z2,z3,z4,z5,z6,z7,z8,z9,Cy⟩:=Jp sm3 jH Qz
           obtain ⟨f4,sm4⟩:=Cy (if jump.isNone then .ready else .done) jump
           have jJ:∃ ρ' u,Ending.returned (.bool jump.isNone)=.returned u/\Fr ρ ρ' h (h2.set A (.loop Gg XM pY yF (if jump.isNone then .ready else .done) jump)) w (w3.putObj L.b (.loop { Cm with state:=if jump.isNone then .ready else .done,pending:=jump })) /\
            bB ρ' (h2.set A (.loop Gg XM pY yF (if jump.isNone then .ready else .done) jump)) (w3.putObj L.b (.loop { Cm with state:=if jump.isNone then .ready else .done,pending:=jump }))/\VR ρ' (.bool jump.isNone) u :=
            ⟨ρ3,_,rfl,((f1.trans f2).trans f3).trans f4,sm4,.bool _⟩
           have dN:=run_endRound (P:=P) jump z1
           cases x with
           |normal=>subst tu;exact ⟨_,_,dN,jJ⟩
           |ret=>subst tu;exact ⟨_,_,dN,jJ⟩
           |exit id=>subst tu;exact ⟨_,_,dN,jJ⟩
          .cases tk
        split at aj
        .rename_i e2 h2 eQ;exact key _ _ _ _ eQ rfl aj
        .rename_i e2 h2 eQ;exact key _ _ _ _ eQ rfl aj
        .rename_i e2 h2 eQ;exact key _ _ _ _ eQ rfl aj
        .cases aj
      .cases aj
     .cases aj
    .cases aj
   .cases aj

theorem Fr.below {ρ':cf} {w w':World} (f:Fr ρ ρ' h h' w w') (iS:∀ A L,ρ A=some L->A < h'.low):Below w.heap.size w w' :=
 ⟨f.os,f.tape,f.output,f.size,λk hk=>f.ft k hk λA L hA _=>.inl (iS A L hA)⟩

theorem zws (jk:P.follows .mixedOrders=true) (hT:T.Fits P) (gb:yD P T.gs ov) {n:Nat} {f:FuncId} {b:Bool} (hf:ov f=none) (dN:call P T ov n (.func f) [] h=some (.bool b,h')) (w:World) (ρ:cf)
 (hG:cE T.gs ρ) (hs:bB ρ h w) (bL:∀ A,h.size<=A->ρ A=none) (iS:∀ A L,ρ A=some L->A < h'.low) :
 Calls P f #[] w λe w'=>e=.returned (.bool b)/\Below w.heap.size w w':=by
 have o0:=(Tz jk hT gb n).fn f [] h (.bool b) h' dN ρ w #[] hG hs (λA h1 _=>bL A h1) (.nil _)
 rcases o0 with ⟨ρ',u,w',h1,_⟩|⟨_,h1⟩
 .exfalso
  cases n with
  |zero=>simp [call] at dN
  |succ n =>
   simp only [call,hf,ck] at dN
   obtain ⟨fn,kx,c,hc,_⟩:=dN
   obtain ⟨hP,gH,_⟩:=hT.fn f fn kx
   have eE:¬ fn.name="runtime.NumGoroutine":=by simpa using gH
   simp [callFunc,hP,eE,hc] at h1
 .refine h1.mono ?_
  rintro e w' ⟨ρ',u,rfl,f1,s1,hv⟩
  refine ⟨?_,f1.below iS⟩
  rw [hv.bt rfl]
end
end Go.Am
