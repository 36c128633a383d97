/- A region that draws its order: the plain machine goes by the text; what it comes to does not hang on the order. No condition. -/
import Derived.Test.YtmamldleclamjaaGreatDoorG0
import Derived.Orders
import Derived.OrdersIn
set_option linter.unusedSimpArgs false
namespace Go.Am
open Go.RowKit

def zmY (T:bO):List TypeId->Bool
 |t::_=>(match T.desc t with|some (.map _ _)=>false|_=>true)
 | []=>true
def tB (T:bO) (o:Oper):Bool :=
 match o.op with
 | .move _ | .assign _ | .pick _ _ _ | .build _ _ | .nilCheck _ | .binOp _ _ _ _ _ | .makeFunc _ _ _ | .slice _ _ _ _ _ | .fieldAddr _ _ _ | .field _ _ _ | .indexAddr _ _ _ | .extract _ _ | .unOp _ _ _ | .index _ _ _ | .makeInterface _ _ | .typeAssert _ _ _ _=>true
 | .convert s d _ => !ur T s && !ur T d
 | .call c=>match c.callee with
  | .builtin .len=>zmY T c.argTypes.toList
  | .builtin .min | .builtin .max | .builtin .cap=>true
  |_=>false
 |_=>false

section
variable (P:Program) (T:bO) (C:Fn->List ah->Heap->Option (ah × Heap))

def mb (o:Oper) (e:Env) (h h':Heap):Nat :=
 if tB T o then 0 else if h.size<=h'.low then (match o.op with
  | .load _ a=>(match bz e a with
   | .pointer (some x)=>3+3*x.block
   |_=>1)
  | .buildSlice _ _ _=>4+3*h.size
  |_=>1)
 else (match o.op with
  | .store _ a _=>(match bz e a with
   | .pointer (some x)=>5+3*x.block
   |_=>2)
  | .call c=>(match c.callee,c.args.toList with
   | .builtin .append,a::_=>(match bz e a with
    | .slice (some x) _ _=>5+3*x.block
    |_=>2)
   |_,_=>2)
  |_=>2)
def rZ (ops:Array Oper):List Oper->Env->Heap->Option (List Nat × Env × Heap)
 | [],e,h=>some ([],e,h)
 |o::r,e,h =>
  if nx ops o e then
   match gP P T C e o { h with low:=h.size } with
   |some (v,h')=>(rZ ops r (put e o.dst v) { h' with low:=min h.low h'.low }).map λ(ks,x)=>(mb T o e h h'::ks,x)
   |none=>none
  else (rZ ops r (put e o.dst undef) h).map λ(ks,x)=>(0::ks,x)

def Ts (acc:List Nat) (o:Oper):Nat:=o.after.toList.foldl (λs e=>if Region.binds .any e then s ||| 2 ^ e.on ||| acc.getD e.on 0 else s) 0
def ph:List Oper->List Nat->List Nat
 | [],acc=>acc
 |o::r,acc=>ph r (acc++[Ts acc o])
def um (a b:Nat):Bool:=a == 0 || b == 0 || (a % 3 != 2 && b % 3 != 2) || (Nat.ble 5 a && a % 3 == 2 && Nat.ble 3 b && b % 3 == 0 && b+2 != a) || (Nat.ble 5 b && b % 3 == 2 && Nat.ble 3 a && ((a % 3 == 0 && a+2 != b) || (a % 3 == 1 && Nat.ble (b+2) a)))
def Qk (ops:Array Oper) (ks ms:List Nat) (j:Nat):Bool :=
 match ops[j]? with
 |some oj=>oj.after.toList.all (λe => !Region.binds .any e || decide (e.on < j)) &&
  (List.range j).all λi=>(ms.getD j 0).testBit i || (match ops[i]? with
   |some oi=>oi.apart ops oj && um (ks.getD i 2) (ks.getD j 2)
   |none=>true)
 |none=>true
def TK (ops:Array Oper) (ks ms:List Nat):Bool:=(List.range ops.size).all (Qk ops ks ms)

def qw (ops:Array Oper) (e:Env) (h:Heap):Option (Env × Heap) :=
 match rZ P T C ops ops.toList e h with
 |some (ks,e',h')=>if TK ops ks (ph ops.toList []) then some (e',h') else none
 |none=>none
end

section
variable {P:Program} {T:bO} {C:Fn->List ah->Heap->Option (ah × Heap)}

theorem ztW {t:TypeId} {x:ah} {ts:List TypeId} (hb:zmY T (t::ts)=true) (h h2:Heap):bn T t x h=bn T t x h2:=by
 simp only [zmY] at hb
 unfold bn
 split at hb
 .cases hb
 .rename_i aS
  split
  all_goals first|rfl|(rename_i hd;exact (aS _ _ hd).elim)

theorem zfg {e:Env} {o:Oper} {h h':Heap} {v:ah} (hb:tB T o=true) (ak:gP P T C e o h=some (v,h')):h'=h/\∀ h2,gP P T C e o h2=some (v,h2):=by
 have cZ:∀ {r:Option ah},(r.map λx=>(x,h))=some (v,h')->h'=h/\∀ h2:Heap,(r.map λx=>(x,h2))=some (v,h2):=by
  intro r hr
  simp only [cD,da] at hr
  obtain ⟨_,rfl,rfl,rfl⟩:=hr
  exact ⟨rfl,λ_=>rfl⟩
 have eb:iZ P e o h=some (v,h')->h'=h/\∀ h2,iZ P e o h2=some (v,h2):=by
  intro hp
  unfold iZ at hp ⊢
  split at hp
  .rename_i h1
   split at hp
   .rename_i h2
    split at hp
    .rename_i h3
     cases hp
     exact ⟨rfl,λ_=>by simp [h1,h3]⟩
    .cases hp
   .cases hp
  .cases hp
 obtain ⟨dst,op,ty,pos,after,guard⟩:=o
 cases op <;> simp only [tB,gB] at hb <;> simp only [gP] at ak ⊢
 case move x=>cases ak;exact ⟨rfl,λ_=>rfl⟩
 case assign x=>cases ak;exact ⟨rfl,λ_=>rfl⟩
 case pick c a b =>
  split at ak
  .cases ak;exact ⟨rfl,λ_=>rfl⟩
  .cases ak
 case build=>exact cZ ak
 case nilCheck x =>
  split at ak
  .cases ak;exact ⟨rfl,λ_=>rfl⟩
  .cases ak;exact ⟨rfl,λ_=>rfl⟩
  .cases ak;exact ⟨rfl,λ_=>rfl⟩
  .cases ak
 case makeInterface=>exact cZ ak
 case typeAssert=>exact cZ ak
 case binOp=>exact cZ ak
 case makeFunc fn f c =>
  split at ak
  .cases ak;exact ⟨rfl,λ_=>rfl⟩
  .cases ak
 case slice=>exact cZ ak
 case fieldAddr=>exact cZ ak
 case field=>exact cZ ak
 case indexAddr=>exact cZ ak
 case extract t i =>
  split at ak
  .exact cZ ak
  .cases ak
 case unOp=>exact eb ak
 case convert s d x =>
  simp only [eo,DT] at hb
  rw [hb.1,hb.2] at ak ⊢
  exact eb ak
 case index=>exact eb ak
 case call c =>
  obtain ⟨callee,args,ats⟩:=c
  cases callee with
  |value f=>simp at hb
  |invoke r m=>simp at hb
  |builtin b =>
   cases b <;> simp at hb <;> simp only at ak ⊢
   case len =>
    split at ak
    .rename_i vy o8
     rw [vy] at hb
     obtain ⟨e1,e2⟩:=cZ ak
     exact ⟨e1,λh2=>by rw [ztW hb h2 h];exact e2 h2⟩
    .cases ak
   case min=>exact eb ak
   case max=>exact eb ak
   case cap =>
    split at ak
    .exact cZ ak
    .cases ak

theorem zoC {e e':Env} {o:Oper} (h:Heap) (he:∀ x∈o.op.operands.toList,bz e x=bz e' x):gP P T C e o h=gP P T C e' o h:=by
 have eb:(∀ cs b,o.op≠.select cs b)->iZ P e o h=iZ P e' o h:=by
  intro Yg
  unfold iZ
  have h1:execOp (bz e) o=execOp (bz e') o:=execOp_congr o Yg (λx hx=>he x (by simpa using hx))
  have h2:(o.op.operands.toList.all λx=>plain (bz e x))=(o.op.operands.toList.all λx=>plain (bz e' x)):=by
   rw [Bool.eq_iff_iff,jh,jh]
   exact ⟨λhh x hx=>by rw [<- he x hx];exact hh x hx,λhh x hx=>by rw [he x hx];exact hh x hx⟩
  rw [h1,h2]
 have oV:∀ (xs:List Operand),(∀ x∈xs,x∈o.op.operands.toList)->xs.map (bz e)=xs.map (bz e'):=λxs hx=>JB λx o8=>he x (hx x o8)
 unfold gP
 dsimp only
 split
 .rename_i x aT;rw [he x (by simp [aT,Op.operands])]
 .rename_i x aT;rw [he x (by simp [aT,Op.operands])]
 .rename_i c a b aT;rw [he c (by simp [aT,Op.operands]),he a (by simp [aT,Op.operands]),he b (by simp [aT,Op.operands])]
 .rfl
 .rename_i t x aT;rw [he x (by simp [aT,Op.operands])]
 .rename_i t ps aT
  rw [JB (g:=λ(p:Nat × Operand)=>(p.1,bz e' p.2)) λp hp=>by rw [he p.2 (by simp [aT,Op.operands];exact ⟨p.1,by simpa using hp⟩)]]
 .rename_i t n ps aT
  rw [JB (g:=λ(p:Nat × Operand)=>(p.1,bz e' p.2)) λp hp=>by rw [he p.2 (by simp [aT,Op.operands];exact ⟨p.1,by simpa using hp⟩)]]
 .rename_i t x aT;rw [he x (by simp [aT,Op.operands])]
 .rename_i t a x aT;rw [he a (by simp [aT,Op.operands]),he x (by simp [aT,Op.operands])]
 .rename_i x aT;rw [he x (by simp [aT,Op.operands])]
 .rename_i op t x y yt aT;rw [he x (by simp [aT,Op.operands]),he y (by simp [aT,Op.operands])]
 .rename_i fn f c aT
  have h1:=oV f.toList (λx hx=>by simp [aT,Op.operands];left;simpa using hx)
  have h2:=oV c.toList (λx hx=>by simp [aT,Op.operands];right;simpa using hx)
  have h3:f.map (bz e)=f.map (bz e'):=by apply Array.ext';simpa using h1
  have h4:c.map (bz e)=c.map (bz e'):=by apply Array.ext';simpa using h2
  rw [h3,h4]
 .rename_i t l c aT;rw [he l (by simp [aT,Op.operands]),he c (by simp [aT,Op.operands])]
 .rename_i t x l hi m aT
  have FQ:∀ (y:Option Operand),(∀ z,y=some z->z∈o.op.operands.toList)->y.map (bz e)=y.map (bz e'):=by
   intro y hy
   cases y with
   |none=>rfl
   |some z=>simp [he z (hy z rfl)]
  rw [he x (by simp [aT,Op.operands]),FQ l (λz hz=>by subst hz;simp [aT,Op.operands]),FQ hi (λz hz=>by subst hz;simp [aT,Op.operands]),FQ m (λz hz=>by subst hz;simp [aT,Op.operands])]
 .rename_i s x f aT;rw [he x (by simp [aT,Op.operands])]
 .rename_i t x f aT;rw [he x (by simp [aT,Op.operands])]
 .rename_i t x i aT;rw [he x (by simp [aT,Op.operands]),he i (by simp [aT,Op.operands])]
 .rename_i t i aT;rw [he t (by simp [aT,Op.operands])]
 .rename_i aT;exact eb (by simp [aT])
 .rename_i s d x aT;rw [he x (by simp [aT,Op.operands]),eb (by simp [aT])]
 .rename_i aT;exact eb (by simp [aT])
 .rename_i c aT
  obtain ⟨callee,args,ats⟩:=c
  dsimp only
  have ha:=oV args.toList (λx hx=>by simp [aT,Op.operands,Call.operands];right;simpa using hx)
  have bY:∀ x∈args.toList,bz e x=bz e' x:=λx hx=>he x (by simp [aT,Op.operands,Call.operands];right;simpa using hx)
  split
  .split
   .rename_i h1 h2;rw [bY _ (by rw [h2];simp),bY _ (by rw [h2];simp)]
   .rfl
  .split
   .rename_i h1 h2;rw [bY _ (by rw [h2];simp),bY _ (by rw [h2];simp)]
   .rfl
  .split
   .rename_i h1 h2;rw [bY _ (by rw [h2];simp)]
   .rfl
  .split
   .rename_i h1 h2;rw [bY _ (by rw [h2];simp)]
   .rfl
  .exact eb (by simp [aT])
  .exact eb (by simp [aT])
  .split
   .rename_i h1 h2;rw [bY _ (by rw [h2];simp),bY _ (by rw [h2];simp)]
   .rfl
  .split
   .rename_i h1 h2;rw [bY _ (by rw [h2];simp)]
   .rfl
  .rename_i rv name
   rw [he rv (by simp [aT,Op.operands,Call.operands]),ha]
  .rename_i f
   rw [he f (by simp [aT,Op.operands,Call.operands]),ha]
  .rfl
 .rename_i t r aT
  cases r with
  |none=>rfl
  |some x=>simp only;rw [he x (by simp [aT,Op.operands])]
 .rename_i t x k ok aT;rw [he x (by simp [aT,Op.operands]),he k (by simp [aT,Op.operands])]
 .rename_i t m k x aT;rw [he m (by simp [aT,Op.operands]),he k (by simp [aT,Op.operands]),he x (by simp [aT,Op.operands])]
 .rename_i t m k x aT;rw [he m (by simp [aT,Op.operands]),he k (by simp [aT,Op.operands]),he x (by simp [aT,Op.operands])]
 .rename_i t m k aT;rw [he m (by simp [aT,Op.operands]),he k (by simp [aT,Op.operands])]
 .rename_i t m k x aT;rw [he m (by simp [aT,Op.operands]),he k (by simp [aT,Op.operands]),he x (by simp [aT,Op.operands])]
 .rename_i t x aT;rw [he x (by simp [aT,Op.operands])]
 .rename_i x xt t ok aT;rw [he x (by simp [aT,Op.operands])]
 .rfl
end
end Go.Am
namespace Go.Am
open Go.RowKit

section
variable {P:Program} {T:bO} {C:Fn->List ah->Heap->Option (ah × Heap)}

def fI (P:Program) (T:bO) (C:Fn->List ah->Heap->Option (ah × Heap)) (ops:Array Oper) (o:Oper) (e e1:Env) (h h1:Heap) (v:ah) (k:Nat):Prop :=
 (nx ops o e=true/\∃ h2,gP P T C e o { h with low:=h.size }=some (v,h2)/\h1={ h2 with low:=min h.low h2.low }/\e1=put e o.dst v/\k=mb T o e h h2) \/
 (nx ops o e=false/\v=undef/\h1=h/\e1=put e o.dst undef/\k=0)

theorem zs3 {ops:Array Oper}:∀ (l:List Oper) (e e':Env) (h h':Heap) (ks:List Nat),rZ P T C ops l e h=some (ks,e',h') ->
 ∃ (E:Nat->Env) (H:Nat->Heap) (V:Nat->ah),E 0=e/\H 0=h/\E l.length=e'/\H l.length=h'/\ks.length=l.length /\
   ∀ i o,l[i]? = some o->fI P T C ops o (E i) (E (i+1)) (H i) (H (i+1)) (V i) (ks.getD i 2)
 | [],e,e',h,h',ks,ak=>by
  simp only [rZ,eh,da] at ak
  obtain ⟨rfl,rfl,rfl⟩:=ak
  exact ⟨λ_=>e,λ_=>h,λ_=>undef,rfl,rfl,rfl,rfl,rfl,λi o hi=>by simp at hi⟩
 |o::l,e,e',h,h',ks,ak=>by
  have glue:∀ (e1:Env) (h1:Heap) (v:ah) (k:Nat) (eU:List Nat),rZ P T C ops l e1 h1=some (eU,e',h')->fI P T C ops o e e1 h h1 v k->ks=k::eU ->
   ∃ (E:Nat->Env) (H:Nat->Heap) (V:Nat->ah),E 0=e/\H 0=h/\E (o::l).length=e'/\H (o::l).length=h'/\ks.length=(o::l).length /\
     ∀ i o',(o::l)[i]? = some o'->fI P T C ops o' (E i) (E (i+1)) (H i) (H (i+1)) (V i) (ks.getD i 2):=by
   intro e1 h1 v k eU hr eG hk
   obtain ⟨E,H,V,bx,zr,zs,Rp,h5',h6'⟩:=zs3 l e1 e' h1 h' eU hr
   subst hk
   refine ⟨λn=>match n with|0=>e|n+1=>E n,λn=>match n with|0=>h|n+1=>H n,λn=>match n with|0=>v|n+1=>V n,rfl,rfl,zs,Rp,by simp [h5'],?_⟩
   intro i o' hi
   cases i with
   |zero =>
    simp only [Ca,eh] at hi
    subst hi
    simp only [bx,zr,List.getD_cons_zero]
    exact eG
   |succ i =>
    have:=h6' i o' (by simpa using hi)
    simpa using this
  simp only [rZ] at ak
  split at ak
  .rename_i hw
   split at ak
   .rename_i v h2 hr
    simp only [cD,Prod.exists,da] at ak
    obtain ⟨eU,x1,x2,bT,hk,rfl,rfl⟩:=ak
    exact glue _ _ v _ eU bT (.inl ⟨hw,h2,hr,rfl,rfl,rfl⟩) hk.symm
   .cases ak
  .rename_i hw
   simp only [cD,Prod.exists,da] at ak
   obtain ⟨eU,x1,x2,bT,hk,rfl,rfl⟩:=ak
   exact glue _ _ undef _ eU bT (.inr ⟨by simpa using hw,rfl,rfl,rfl,rfl⟩) hk.symm

theorem zfn:∀ (l:List Oper) (acc:List Nat) (k:Nat),k < acc.length->(ph l acc).getD k 0=acc.getD k 0
 | [],acc,k,_=>rfl
 |o::l,acc,k,hk=>by
  rw [ph,zfn l _ k (by simp;omega)]
  simp [nz hk]
theorem zm2:∀ (l:List Oper) (acc:List Nat) (t:Nat) (o:Oper),l[t]? = some o->∃ sB:List Nat,sB.length=acc.length+t/\(ph l acc).getD (acc.length+t) 0=Ts sB o/\∀ k,k < acc.length+t->sB.getD k 0=(ph l acc).getD k 0
 | [],acc,t,o,h=>by simp at h
 |o'::l,acc,0,o,h=>by
  simp only [Ca,eh] at h
  subst h
  refine ⟨acc,rfl,?_,λk hk=>?_⟩
  .rw [ph,i0,zfn l _ acc.length (by simp)]
   simp
  .rw [ph,zfn l _ k (by simp;omega)]
   simp [nz (show k < acc.length by omega)]
 |o'::l,acc,t+1,o,h=>by
  obtain ⟨sB,h1,h2,h3⟩:=zm2 l (acc++[Ts acc o']) t o (by simpa using h)
  simp only [dI,v8] at h1 h2 h3
  rw [show acc.length+(t+1)=acc.length+1+t by omega]
  exact ⟨sB,h1,h2,h3⟩

theorem zhT {acc:List Nat} {o:Oper} {i:Nat} (h:(Ts acc o).testBit i=true):∃ e∈o.after.toList,Region.binds .any e=true/\(i=e.on\/(acc.getD e.on 0).testBit i=true):=by
 have key:∀ (l:List Edge) (s:Nat),(l.foldl (λs e=>if Region.binds .any e then s ||| 2 ^ e.on ||| acc.getD e.on 0 else s) s).testBit i=true ->
  s.testBit i=true\/∃ e∈l,Region.binds .any e=true/\(i=e.on\/(acc.getD e.on 0).testBit i=true):=by
  intro l
  induction l with
  |nil=>intro s hs;exact .inl hs
  |cons e l ih =>
   intro s hs
   rw [uG] at hs
   rcases ih _ hs with h1|⟨e',h1,h2,h3⟩
   .split at h1
    .rename_i hb
     rw [Nat.testBit_or,Nat.testBit_or,su,su] at h1
     rcases h1 with (h1|h1)|h1
     .exact .inl h1
     .rw [Nat.testBit_two_pow] at h1
      exact .inr ⟨e,by simp,hb,.inl (of_decide_eq_true h1).symm⟩
     .exact .inr ⟨e,by simp,hb,.inr h1⟩
    .exact .inl h1
   .exact .inr ⟨e',by simp [h1],h2,h3⟩
 rcases key _ 0 h with h1|h1
 .simp at h1
 .exact h1

theorem zjQ {ops:Array Oper} {S:Nat->Prop} (m6:∀ (j:Nat) (o:Oper),ops[j]? = some o->∀ e∈o.after.toList,Region.binds .any e=true->e.on < j)
 (kU:∀ (j:Nat) (o:Oper),ops[j]? = some o->S j->∀ e∈o.after.toList,Region.binds .any e=true->S e.on) :
 ∀ (n j:Nat) (o:Oper) (i:Nat),j<=n->ops[j]? = some o->(∀ e∈o.after.toList,Region.binds .any e=true->S e.on)->((ph ops.toList []).getD j 0).testBit i=true->S i:=by
 intro n
 induction n with
 |zero =>
  intro j o i hj ho hd hb
  obtain ⟨sB,h1,h2,h3⟩:=zm2 ops.toList [] j o (by simpa using ho)
  simp only [dK,j3] at h1 h2 h3
  rw [h2] at hb
  obtain ⟨e,he,H7,_⟩:=zhT hb
  have:=m6 j o ho e he H7
  omega
 |succ n ih =>
  intro j o i hj ho hd hb
  obtain ⟨sB,h1,h2,h3⟩:=zm2 ops.toList [] j o (by simpa using ho)
  simp only [dK,j3] at h1 h2 h3
  rw [h2] at hb
  obtain ⟨e,he,H7,hi⟩:=zhT hb
  have aW:=m6 j o ho e he H7
  have hS:=hd e he H7
  rcases hi with rfl|hi
  .exact hS
  .rw [h3 e.on aW] at hi
   have RL:j < ops.size:=(mO.1 ho).1
   have hoe:ops[e.on]? = some (ops[e.on]'(by omega)):=zd _
   exact ih e.on _ i (by omega) hoe (kU e.on _ hoe hS) hi

def eS (e0:Env) (dst:Nat->Option Tmp) (V:Nat->ah) (S:Nat->Bool):Nat->Env
 |0=>e0
 |k+1=>if S k then put (eS e0 dst V S k) (dst k) (V k) else eS e0 dst V S k

theorem QL {e0:Env} {dst:Nat->Option Tmp} {V:Nat->ah} {S:Nat->Bool} {k:Nat} (h:S k=true):eS e0 dst V S (k+1)=put (eS e0 dst V S k) (dst k) (V k):=by simp only [eS,h,if_true]
theorem Jp {e0:Env} {dst:Nat->Option Tmp} {V:Nat->ah} {S:Nat->Bool} {k:Nat} (h:S k=false):eS e0 dst V S (k+1)=eS e0 dst V S k:=by simp only [eS,h,gB,if_false]
theorem SP (e:Env) (d:Option Tmp) (v:ah):(put e d v).length=e.length:=by cases d <;> simp [put,Env.length_set]
theorem GX (e0:Env) (dst:Nat->Option Tmp) (V:Nat->ah) (S:Nat->Bool):∀ k,(eS e0 dst V S k).length=e0.length
 |0=>rfl
 |k+1=>by
  simp only [eS]
  split
  .rw [SP,GX e0 dst V S k]
  .exact GX e0 dst V S k
theorem IL {e:Env} {d:Option Tmp} {v:ah} {t:Nat} (h:d≠some t):(put e d v).get t=e.get t:=by
 cases d with
 |none=>rfl
 |some d=>simp only [put,Env.aJ];rw [aA (λhh=>h (by rw [hh.1]))]
theorem Z3 {e e':Env} (hl:e.length=e'.length) {d:Option Tmp} {v:ah} {t:Nat} (h:e.get t=e'.get t):(put e d v).get t=(put e' d v).get t:=by
 cases d with
 |none=>exact h
 |some d=>simp only [put,Env.aJ,hl,h]

end
end Go.Am
namespace Go.Am
open Go.RowKit
variable {k:Nat} {v:ah} {h h' h1:Heap} {e e1:Env} {o:Oper} {ops:Array Oper} {t:TypeId}

theorem zoq {p p':Nat->Bool}:∀ (l:List Nat),(∀ k∈l,p' k=true->p k=true)->(∃ x∈l,p x=true/\p' x=false)->l.countP p' < l.countP p
 | [],_,h=>by obtain ⟨x,hx,_⟩:=h;simp at hx
 |a::l,hle,h=>by
  have aeL:l.countP p'<=l.countP p:=List.countP_mono_left λk hk=>hle k (by simp [hk])
  obtain ⟨x,hx,hp,mn⟩:=h
  rw [List.countP_cons,List.countP_cons]
  rcases cJ.1 hx with rfl|hx
  .simp only [hp,mn,if_true,gB,if_false]
   omega
  .have ih:=zoq l (λk hk=>hle k (by simp [hk])) ⟨x,hx,hp,mn⟩
   by_cases ha:p' a=true
   .rw [aB ha,aB (hle a (by simp) ha)];omega
   .rw [aA ha];split <;> omega

section
variable {P:Program} {T:bO} {C:Fn->List ah->Heap->Option (ah × Heap)}

theorem Heap.jF (h:Heap) (x A:Nat):Heap.get { h with low:=x } A=h.get A:=rfl

theorem fI.keeps (hg:uF C) (hs:fI P T C ops o e e1 h h1 v k):bA h h1:=by
 rcases hs with ⟨_,h2,ak,rfl,_,_⟩|⟨_,_,rfl,_,_⟩
 .have hk:=GU hg ak
  exact ⟨hk.size,w9 _ _,λA h3 h4=>hk.get A h3 (dJ h4 (DQ _ _))⟩
 .exact .refl _
theorem zjK (hb:tB T o=true):mb T o e h h'=0:=by unfold mb;rw [aB hb]
theorem zht (hb:¬ tB T o=true) (hl:h.size<=h'.low):mb T o e h h' % 3≠2/\mb T o e h h'≠0 /\
 (mb T o e h h'=1\/(∃ t a x,o.op=.load t a/\bz e a=.pointer (some x)/\mb T o e h h'=3+3*x.block)\/((∃ t n ps,o.op=.buildSlice t n ps)/\mb T o e h h'=4+3*h.size)):=by
 unfold mb
 rw [aA hb,aB hl]
 split
 .rename_i t a aT
  split
  .rename_i x hx
   exact ⟨by omega,by omega,.inr (.inl ⟨t,a,x,aT,hx,rfl⟩)⟩
  .exact ⟨by omega,by omega,.inl rfl⟩
 .rename_i t n ps aT
  exact ⟨by omega,by omega,.inr (.inr ⟨⟨t,n,ps,aT⟩,rfl⟩)⟩
 .exact ⟨by omega,by omega,.inl rfl⟩
theorem SM (hb:¬ tB T o=true) (hl:¬ h.size<=h'.low):mb T o e h h' % 3=2 /\
 (mb T o e h h'=2\/(∃ t a y x,o.op=.store t a y/\bz e a=.pointer (some x)/\mb T o e h h'=5+3*x.block) \/
  ∃ c a as x n m,o.op=.call c/\c.callee=.builtin .append/\c.args.toList=a::as/\bz e a=.slice (some x) n m/\mb T o e h h'=5+3*x.block):=by
 unfold mb
 rw [aA hb,aA hl]
 split
 .rename_i t a y aT
  split
  .rename_i x hx
   exact ⟨by omega,.inr (.inl ⟨t,a,y,x,aT,hx,rfl⟩)⟩
  .exact ⟨rfl,.inl rfl⟩
 .rename_i c aT
  split
  .rename_i a as hc ha
   split
   .rename_i x n m hx
    exact ⟨by omega,.inr (.inr ⟨c,a,as,x,n,m,aT,hc,ha,hx,rfl⟩)⟩
   .exact ⟨rfl,.inl rfl⟩
  .exact ⟨rfl,.inl rfl⟩
 .exact ⟨rfl,.inl rfl⟩
theorem zmw {x:ah} {p:Addr} {n c:Nat} (ha:iy T t (.slice (some p) n c) x h=some (v,h')):∀ B,B < h.size->B≠p.block->h'.get B=h.get B:=by
 intro B hB aS
 obtain ⟨A,o,sp⟩:=p
 replace aS:B≠A:=aS
 unfold iy at ha
 split at ha
 .simp only [cL,Prod.exists] at ha
  obtain ⟨k,uL,z,_,m,news,_,ha⟩:=ha
  split at ha
  .cases ha;rfl
  .split at ha
   .cases ha
   .split at ha
    .split at ha
     .rename_i A' o' heq
      cases heq
      split at ha
      .simp only [cD,da] at ha
       obtain ⟨h1,hw,_,rfl⟩:=ha
       unfold lY at hw
       split at hw
       .rename_i cs e' hg
        split at hw
        .cases hw
         rw [Heap.aJ _ _ _ _ (Heap.bE hg),aA aS]
        .cases hw
       .cases hw
      .cases ha
     .cases ha
    .simp only [cL] at ha
     obtain ⟨eD,_,ha⟩:=ha
     split at ha
     .cases ha
      rw [Heap.bC,aA (by omega)]
     .split at ha
      .rename_i A' o' sp' heq
       cases heq
       split at ha
       .rename_i hg
        split at ha
        .cases ha
         rw [Heap.bC,aA (by rw [Heap.size_set];omega),Heap.aJ _ _ _ _ (Heap.bE hg),aA aS]
        .cases ha
       .cases ha
      .cases ha
 .cases ha
theorem I6 {a b:Nat} (ha:a % 3=2) (hk:um a b=true):b=0\/(5<=a/\b % 3=0/\3<=b/\b+2≠a):=by
 unfold um at hk
 simp only [su,eo,beq_iff_eq,bne_iff_ne,Nat.ble_eq] at hk
 omega
theorem zwH {a b:Nat} (hb:b % 3=2) (hk:um a b=true):a=0\/(5<=b/\((a % 3=0/\3<=a/\a+2≠b)\/(a % 3=1/\3<=a/\b+2<=a))):=by
 unfold um at hk
 simp only [su,eo,beq_iff_eq,bne_iff_ne,Nat.ble_eq] at hk
 omega
theorem fI.same (hg:uF C) (hs:fI P T C ops o e e1 h h1 v k) (gu:k % 3≠2):∀ A,A < h.size->h1.get A=h.get A:=by
 rcases hs with ⟨_,h2,ak,rfl,_,hk⟩|⟨_,_,rfl,_,_⟩
 .intro A hA
  by_cases hb:tB T o=true
  .rw [Heap.jF,(zfg hb ak).1];rfl
  .by_cases hl:h.size<=h2.low
   .exact (GU hg ak).get A hA (by omega)
   .exact (gu (by rw [hk];exact (SM hb hl).1)).elim
 .intro A _;rfl
theorem fI.still (hs:fI P T C ops o e e1 h h1 v k) (wx:k % 3=0):h1.size=h.size/\∀ A,h1.get A=h.get A:=by
 rcases hs with ⟨_,h2,ak,rfl,_,hk⟩|⟨_,_,rfl,_,_⟩
 .by_cases hb:tB T o=true
  .obtain ⟨rfl,_⟩:=zfg hb ak
   exact ⟨rfl,λ_=>rfl⟩
  .by_cases hl:h.size<=h2.low
   .rcases (zht (e:=e) hb hl).2.2 with h3|⟨t,a,x,aT,hx,h3⟩|⟨_,h3⟩
    .omega
    .unfold gP at ak
     simp only [aT,cD,da] at ak
     obtain ⟨_,_,_,rfl⟩:=ak
     exact ⟨rfl,λ_=>rfl⟩
    .omega
   .exfalso
    have:=(SM (e:=e) hb hl).1
    omega
 .exact ⟨rfl,λ_=>rfl⟩
theorem fI.other (hs:fI P T C ops o e e1 h h1 v k) (gu:k % 3=2) (hk5:5<=k):∀ A,A < h.size->5+3*A≠k->h1.get A=h.get A:=by
 rcases hs with ⟨_,h2,ak,rfl,_,hk⟩|⟨_,_,rfl,_,_⟩
 .intro A dF hA
  by_cases hb:tB T o=true
  .rw [zjK hb] at hk;omega
  .by_cases hl:h.size<=h2.low
   .have:=(zht (e:=e) hb hl).1
    omega
   .rcases (SM (e:=e) hb hl).2 with h3|⟨t,a,y,x,aT,hx,h3⟩|⟨c,a,as,x,n,m,aT,W9,dP,hx,h3⟩
    .omega
    .have aS:A≠x.block:=λe'=>by subst e';omega
     unfold gP at ak
     simp only [aT,hx,cD,da] at ak
     obtain ⟨h4,hr,_,rfl⟩:=ak
     rw [Heap.jF]
     obtain ⟨B,off,sp⟩:=x
     unfold iO at hr
     split at hr
     .rename_i B' o' heq
      cases heq
      simp only [cL] at hr
      obtain ⟨n,_,hr⟩:=hr
      split at hr
      .unfold lY at hr
       split at hr
       .rename_i cs e' hg
        split at hr
        .cases hr
         rw [Heap.aJ _ _ _ _ (Heap.bE hg),aA aS]
         rfl
        .cases hr
       .cases hr
      .cases hr
     .cases hr
    .have aS:A≠x.block:=λe'=>by subst e';omega
     unfold gP at ak
     simp only [aT,W9,dP] at ak
     rw [Heap.jF]
     split at ak
     .rename_i heq
      cases heq
      split at ak
      .rw [hx] at ak
       exact zmw ak A dF aS
      .cases ak
     .cases ak
 .intro A _ _;rfl

theorem bR.swap {ρ:cn} {w:World} (hs:bR ρ h w) (eT:∀ A L,ρ A=some L->h1.get A=h.get A\/h1.get A=none):bR ρ h1 w:=by
 refine ⟨λA L hA=>?_,λA A' L L' hA dO aS hb=>?_⟩
 .rcases eT A L hA with h2|h2
  .rw [h2];exact hs.j5 A L hA
  .rw [h2];exact hs.lt hA
 .have cU:∀ B M,ρ B=some M->¬ live h B->¬ live h1 B:=by
   rintro B M hB hn ⟨b,h3,h4⟩
   rcases eT B M hB with h2|h2
   .exact hn ⟨b,by rw [<- h2];exact h3,h4⟩
   .rw [h2] at h3;cases h3
  rcases hs.inj A A' L L' hA dO aS hb with h2|h2|⟨⟨c1,e1,h2⟩,⟨c2,e2,h3⟩⟩
  .exact .inl (cU _ _ hA h2)
  .exact .inr (.inl (cU _ _ dO h2))
  .rcases eT A L hA with h4|h4
   .rcases eT A' L' dO with h5|h5
    .exact .inr (.inr ⟨⟨c1,e1,by rw [h4];exact h2⟩,⟨c2,e2,by rw [h5];exact h3⟩⟩)
    .exact .inr (.inl (by rintro ⟨b,h6,_⟩;rw [h5] at h6;cases h6))
   .exact .inl (by rintro ⟨b,h6,_⟩;rw [h4] at h6;cases h6)

theorem Fr.step {ρ0 ρ ρ':cn} {h0 hf hi hj:Heap} {w0 w w':World} (f:Fr ρ0 ρ h0 hf w0 w) (g:Fr ρ ρ' hi hj w w') (h1:hf.low<=hj.low) (h2:hj.size<=hf.size) (h3:h0.size<=hi.size):Fr ρ0 ρ' h0 hf w0 w':=by
 refine ⟨λA L hA=>g.grow A L (f.grow A L hA),?_,g.os.trans f.os,g.tape.trans f.tape,g.output.trans f.output,hY f.size g.size,f.gM,f.low,?_,f.qG⟩
 .intro A L hA hn
  cases hρ:ρ A with
  |some L1 =>
   have e:L1=L:=by have:=g.grow A L1 hρ;rw [hA] at this;exact (Option.some.inj this).symm
   subst e
   exact f.fresh A L1 hρ hn
  |none =>
   obtain ⟨k1,k2,k3⟩:=g.fresh A L hA hρ
   refine ⟨by omega,by omega,?_⟩
   rcases k3 with k3|⟨A0,L0,h5,he,hl,Bf⟩
   .exact .inl (hY f.size k3)
   .cases Gg:ρ0 A0 with
    |some L1 =>
     have e:L1=L0:=by have:=f.grow A0 L1 Gg;rw [h5] at this;exact (Option.some.inj this).symm
     subst e
     exact .inr ⟨A0,L1,Gg,he,by omega,by omega⟩
    |none =>
     rcases (f.fresh A0 L0 h5 Gg).2.2 with h6|⟨A1,L1,h6,Xh,xY,XN⟩
     .exact .inl (by omega)
     .exact .inr ⟨A1,L1,h6,Xh.trans he,xY,XN⟩
 .intro b hb aE
  rw [g.keep b (dJ hb f.size) ?_,f.keep b hb aE]
  intro A L hA hL
  cases hρ:ρ0 A with
  |some L0 =>
   have e:L0=L:=by have:=f.grow A L0 hρ;rw [hA] at this;exact (Option.some.inj this).symm
   subst e
   have:=aE A L0 hρ hL
   omega
  |none =>
   rcases (f.fresh A L hA hρ).2.2 with k1|⟨A0,L0,h5,he,hl,Bf⟩
   .omega
   .have:=aE A0 L0 h5 (he.trans hL)
    omega

theorem zjO {x:Addr} {hh:Heap} (hg:hh.get x.block=h.get x.block):ic T t (.pointer (some x)) hh=ic T t (.pointer (some x)) h:=by
 obtain ⟨B,o,s⟩:=x
 cases s <;> simp only [ic,iQ,hg]
theorem zsu {x:Addr} (hl:ic T t (.pointer (some x)) h=some v):x.block < h.size:=by
 rcases lB x.block h.size with h1|h1
 .exact h1
 .exfalso
  have hn:h.get x.block=none:=by unfold Heap.get;rw [aA (by omega)]
  obtain ⟨B,o,s⟩:=x
  simp only at hn
  cases s with
  |some q=>cases hl
  |none =>
   simp only [ic,iQ,hn,cL] at hl
   obtain ⟨g,_,hl⟩:=hl
   cases g <;> simp at hl
theorem zjk {n:Nat} {ps:List (Nat × ah)} {h2:Heap} (hb:yT T t n ps h=some (v,h2)) (hs:h1.size=h.size):∃ b,h2=h.push b/\yT T t n ps h1=some (v,h1.push b):=by
 unfold yT at hb ⊢
 split at hb
 .rename_i e hd
  simp only [cL,Prod.exists] at hb
  obtain ⟨k,uL,z,hi,hb⟩:=hb
  split at hb
  .cases hb
  .rename_i hc
   simp only [cD,da] at hb
   obtain ⟨cs,mj,rfl,rfl⟩:=hb
   refine ⟨_,rfl,?_⟩
   simp only [hi,dX]
   rw [aA hc,mj,hs]
   rfl
 .cases hb
theorem zq4 {t:Nat} (h:Operand.tmp t∈o.op.operands.toList):t∈o.looksAt ops:=by
 unfold Oper.looksAt
 rw [iA]
 left
 rw [List.mem_filterMap]
 exact ⟨_,h,rfl⟩

set_option maxHeartbeats 1000000 in
theorem Z6 (na:P.follows .mixedOrders=true) (hT:T.Fits P) {gs:List Nat} (hC:CS P gs C) (hg:uF C):DS P gs (qw P T C):=by
 intro rl id ops e0 e' h0 h' ρ0 a0 w0 Q ak cE WJ rT RD Xg hQ
 unfold qw at ak
 split at ak
 case h_2=>cases ak
 rename_i ks ee hh eC
 split at ak
 case isFalse=>cases ak
 rename_i CJ
 cases ak
 obtain ⟨E,H,V,ob,sM,hEn,zw,kX,htr⟩:=zs3 ops.toList e0 e' h0 h' ks eC
 rw [rD] at hEn zw
 have ng:∀ i o,ops[i]? = some o->fI P T C ops o (E i) (E (i+1)) (H i) (H (i+1)) (V i) (ks.getD i 2):=λi o ho=>htr i o (by simpa using ho)
 have eZ:∀ i,i < ops.size->∃ o,ops[i]? = some o:=λi hi=>⟨_,zd hi⟩
 have cI:∀ i j,i<=j->j<=ops.size->bA (H i) (H j):=by
  intro i j dp
  induction dp with
  |refl=>intro _;exact .refl _
  |step dp ih =>
   rename_i k
   intro hj
   obtain ⟨o,ho⟩:=eZ k (by omega)
   exact (ih (by omega)).trans ((ng k o ho).keeps hg)
 have gL:∀ i j,i<=j->j<=ops.size->(∀ k,i<=k->k < j->ks.getD k 2 % 3≠2)->∀ A,A < (H i).size->(H j).get A=(H i).get A:=by
  intro i j dp
  induction dp with
  |refl=>intro _ _ A _;rfl
  |step dp ih =>
   rename_i k
   intro hj hk A hA
   obtain ⟨o,ho⟩:=eZ k (by omega)
   have h1:=(ng k o ho).same hg (hk k (by omega) (so _)) A (dJ hA (cI i k (by omega) (by omega)).size)
   exact h1.trans (ih (by omega) (λq h2 h3=>hk q h2 (by omega)) A hA)
 have wt:∀ j,j < ops.size->Qk ops ks (ph ops.toList []) j=true:=λj hj=>jh.1 CJ j (zj.2 hj)
 have m6:∀ (j:Nat) (o:Oper),ops[j]? = some o->∀ e∈o.after.toList,Region.binds .any e=true->e.on < j:=by
  intro j o ho e he hb
  have:=wt j (mO.1 ho).1
  simp only [Qk,ho,eo,jh] at this
  have h2:=this.1 e he
  simpa [hb] using h2
 have yl:∀ (i j:Nat) (oi oj:Oper),i < j->ops[i]? = some oi->ops[j]? = some oj->((ph ops.toList []).getD j 0).testBit i=true\/(oi.apart ops oj=true/\um (ks.getD i 2) (ks.getD j 2)=true):=by
  intro i j oi oj dp MU qp
  have:=wt j (mO.1 qp).1
  simp only [Qk,qp,eo,jh] at this
  have h2:=this.2 i (zj.2 dp)
  simpa [MU] using h2
 clear CJ wt
 let dst:Nat->Option Tmp:=λk=>(ops[k]?).bind (·.dst)
 refine wpIn_region_any na ?_
 have LV:∀ k,k<=ops.size->(E k).length=e0.length:=by
  intro k
  induction k with
  |zero=>intro _;rw [ob]
  |succ k ih =>
   intro hk
   obtain ⟨o,ho⟩:=eZ k (by omega)
   rcases ng k o ho with ⟨_,_,_,_,h1,_⟩|⟨_,_,_,h1,_⟩ <;> rw [h1,SP,ih (by omega)]
 have CA:∀ k o,ops[k]? = some o->E (k+1)=put (E k) (dst k) (V k):=by
  intro k o ho
  have hd:dst k=o.dst:=by simp [dst,ho]
  rw [hd]
  rcases ng k o ho with ⟨_,_,_,_,h1,_⟩|⟨_,h2,_,h1,_⟩
  .exact h1
  .rw [h1,h2]
 have fin:∀ (listed:Array Bool) (ρ:cn) (a:Act) (w:World),(∀ k,k < ops.size->listed.getD k false=true)->cq ρ (eS e0 dst V (λk=>listed.getD k false) ops.size) a.tmps->a.defers=a0.defers ->
  (∃ m,m<=ops.size/\bR ρ (H m) w/\(∀ k,k < m->ks.getD k 2 % 3=2->listed.getD k false=true)/\(m=ops.size\/(ks.getD m 2 % 3=2/\listed.getD m false=false)))->Fr ρ0 ρ h0 h' w0 w->Q .normal a w:=by
  intro listed ρ a w aE kV u4 vt cQ
  obtain ⟨m,il,fS,yd,wA⟩:=vt
  have RQ:m=ops.size:=by
   rcases wA with h1|⟨_,h1⟩
   .exact h1
   .rcases lB m ops.size with h2|h2
    .rw [aE m h2] at h1;cases h1
    .omega
  subst RQ
  rw [zw] at fS
  have heq:∀ k,k<=ops.size->eS e0 dst V (λk=>listed.getD k false) k=E k:=by
   intro k
   induction k with
   |zero=>intro _;exact ob.symm
   |succ k ih =>
    intro hk
    obtain ⟨o,ho⟩:=eZ k (by omega)
    simp only [eS]
    rw [aB (aE k (by omega)),ih (by omega),CA k o ho]
  rw [heq _ (bo _),hEn] at kV
  exact hQ ρ a w cQ fS kV u4
 have yL:∀ (listed:Array Bool),listed.size=ops.size->Region.ready .any ops listed=[]->∀ k,k < ops.size->listed.getD k false=true:=by
  intro listed RN hr k
  induction k using Nat.strongRecOn with
  |_ k ih =>
   intro hk
   cases hb:listed.getD k false with
   |true=>rfl
   |false =>
    exfalso
    obtain ⟨o,ho⟩:=eZ k hk
    have bY:k∈Region.ready .any ops listed:=by
     rw [mem_ready]
     refine ⟨?_,o,ho,λe he H7=>?_⟩
     .have:k < listed.size:=by omega
      simp [this] at hb ⊢
      exact hb
     .have aW:=m6 k o ho e (by simpa using he) H7
      exact ih e.on aW (by omega)
    rw [hr] at bY
    cases bY
 have main:∀ (fuel:Nat) (listed:Array Bool) (ρ:cn) (a:Act) (w:World),listed.size=ops.size->(List.range ops.size).countP (λk => !listed.getD k false)<=fuel ->
  (∀ (j:Nat) (o:Oper),ops[j]? = some o->listed.getD j false=true->∀ e∈o.after.toList,Region.binds .any e=true->listed.getD e.on false=true) ->
  cq ρ (eS e0 dst V (λk=>listed.getD k false) ops.size) a.tmps->a.defers=a0.defers ->
  (∃ m,m<=ops.size/\bR ρ (H m) w/\(∀ k,k < m->ks.getD k 2 % 3=2->listed.getD k false=true)/\(m=ops.size\/(ks.getD m 2 % 3=2/\listed.getD m false=false))) ->
  (∀ A L,ρ A=some L->ρ0 A=some L\/∃ j,j < ops.size/\listed.getD j false=true/\(H j).size<=A/\A < (H (j+1)).size) ->
  Fr ρ0 ρ h0 h' w0 w->wpAnyIn (WR rl) 0 P .any ops Q fuel listed a w:=by
  intro fuel
  induction fuel with
  |zero =>
   intro listed ρ a w RN qU kU kV u4 vt xL cQ
   have aE:∀ k,k < ops.size->listed.getD k false=true:=by
    intro k hk
    have h1:=List.countP_eq_zero.1 (Nat.le_zero.1 qU) k (zj.2 hk)
    simpa using h1
   refine ⟨?_,fin listed ρ a w aE kV u4 vt cQ⟩
   apply List.eq_nil_iff_forall_not_mem.2
   intro i hi
   rw [mem_ready] at hi
   obtain ⟨h1,o,ho,_⟩:=hi
   have aW:i < ops.size:=(mO.1 ho).1
   have h2:=aE i aW
   have:i < listed.size:=by omega
   simp [this] at h1 h2
   rw [h2] at h1
   cases h1
  |succ fuel ih =>
   intro listed ρ a w RN qU kU kV u4 vt xL cQ
   refine ⟨λhr=>fin listed ρ a w (yL listed RN hr) kV u4 vt cQ,?_⟩
   intro i hi
   rw [mem_ready] at hi
   obtain ⟨sU,o,ho,nc⟩:=hi
   have sV:i < ops.size:=(mO.1 ho).1
   have H5:listed.getD i false=false:=by
    have:i < listed.size:=by omega
    simp [this] at sU ⊢
    exact sU
   have CX:∀ e∈o.after.toList,Region.binds .any e=true->listed.getD e.on false=true:=λe he hb=>nc e (by simpa using he) hb
   have qQ:∀ k,(listed.setIfInBounds i true).getD k false=(decide (k=i) || listed.getD k false):=by
    intro k
    by_cases hk:k=i
    .subst hk
     have:k < listed.size:=by omega
     simp [this]
    .simp [G7 (Ne.symm hk),hk]
   have mH:∀ k ok,k < i->ops[k]? = some ok->listed.getD k false=false->ok.apart ops o=true/\um (ks.getD k 2) (ks.getD i 2)=true:=by
    intro k ok sX fj hk
    rcases yl k i ok o sX fj ho with h1|h1
    .have:=zjQ (S:=λj=>listed.getD j false=true) m6 kU i i o k (bo _) ho CX h1
     rw [hk] at this
     cases this
    .exact h1
   have js:∀ j oj,i < j->ops[j]? = some oj->listed.getD j false=true->o.apart ops oj=true/\um (ks.getD i 2) (ks.getD j 2)=true:=by
    intro j oj dp qp hj
    rcases yl i j o oj dp ho qp with h1|h1
    .have:=zjQ (S:=λj=>listed.getD j false=true) m6 kU j j oj i (bo _) qp (kU j oj qp hj) h1
     rw [H5] at this
     cases this
    .exact h1
   have tY:∀ t,t∈o.looksAt ops->(eS e0 dst V (λk=>listed.getD k false) ops.size).get t=(E i).get t:=by
    intro t ht
    have p1:∀ k,k<=i->(eS e0 dst V (λk=>listed.getD k false) k).get t=(E k).get t:=by
     intro k
     induction k with
     |zero=>intro _;rw [ob];rfl
     |succ k lX =>
      intro hk
      obtain ⟨ok,fj⟩:=eZ k (by omega)
      rw [CA k ok fj]
      simp only [eS]
      split
      .exact Z3 (by rw [GX,LV k (by omega)]) (lX (by omega))
      .rename_i ml
       rw [lX (by omega),IL]
       intro hd
       have mi:=(Oper.apart_spec (mH k ok (by omega) fj (by simpa using ml)).1).1
       exact mi t (by simpa [dst,fj] using hd) ht
    have p2:∀ k,i<=k->k<=ops.size->(eS e0 dst V (λk=>listed.getD k false) k).get t=(eS e0 dst V (λk=>listed.getD k false) i).get t:=by
     intro k vd
     induction vd with
     |refl=>intro _;rfl
     |step vd lX =>
      rename_i k
      intro hk
      obtain ⟨ok,fj⟩:=eZ k (by omega)
      simp only [eS]
      split
      .rename_i ml
       rw [IL,lX (by omega)]
       intro hd
       have aS:i≠k:=λe=>by subst e;rw [H5] at ml;cases ml
       have XG:i<=k:=vd
       have mi:=(Oper.apart_spec (js k ok (by omega) fj ml).1).2.2
       exact mi t (by simpa [dst,fj] using hd) ht
      .exact lX (by omega)
    rw [p2 _ (by omega) (bo _),p1 i (bo _)]
   have CT:∀ x∈o.op.operands.toList,bz (eS e0 dst V (λk=>listed.getD k false) ops.size) x=bz (E i) x:=by
    intro x hx
    cases x with
    |tmp t=>exact tY t (zq4 hx)
    |_=>rfl
   have Nk:nx ops o (eS e0 dst V (λk=>listed.getD k false) ops.size)=nx ops o (E i):=by
    unfold nx
    cases XA:o.guard with
    |none=>rfl
    |some g =>
     obtain ⟨j,b⟩:=g
     simp only
     cases hdj:(ops[j]?).bind (·.dst) with
     |none=>rfl
     |some t =>
      simp only
      rw [tY t (by unfold Oper.looksAt;rw [iA];right;simp [XA,hdj])]
   have MB:∀ t,(eS e0 dst V (λk=>(listed.setIfInBounds i true).getD k false) ops.size).get t=(put (eS e0 dst V (λk=>listed.getD k false) ops.size) o.dst (V i)).get t:=by
    intro t
    have hdi:dst i=o.dst:=by simp [dst,ho]
    have p1:∀ k,k<=i->eS e0 dst V (λk=>(listed.setIfInBounds i true).getD k false) k=eS e0 dst V (λk=>listed.getD k false) k:=by
     intro k
     induction k with
     |zero=>intro _;rfl
     |succ k lX =>
      intro hk
      have sX:decide (k=i)=false:=by simp;omega
      cases ml:listed.getD k false with
      |true=>rw [QL (S:=λk=>(listed.setIfInBounds i true).getD k false) (by show (listed.setIfInBounds i true).getD k false=true;rw [qQ k,ml];simp),QL (S:=λk=>listed.getD k false) ml,lX (by omega)]
      |false=>rw [Jp (S:=λk=>(listed.setIfInBounds i true).getD k false) (by show (listed.setIfInBounds i true).getD k false=false;rw [qQ k,ml,sX];rfl),Jp (S:=λk=>listed.getD k false) ml,lX (by omega)]
    have p2:∀ k,i+1<=k->k<=ops.size->(eS e0 dst V (λk=>(listed.setIfInBounds i true).getD k false) k).get t=(put (eS e0 dst V (λk=>listed.getD k false) k) o.dst (V i)).get t:=by
     intro k vd
     induction vd with
     |refl =>
      intro _
      rw [QL (S:=λk=>(listed.setIfInBounds i true).getD k false) (by show (listed.setIfInBounds i true).getD i false=true;rw [qQ i];simp),p1 i (bo _),Jp (S:=λk=>listed.getD k false) H5,hdi]
     |step vd lX =>
      rename_i k
      intro hk
      have XG:i+1<=k:=vd
      obtain ⟨ok,fj⟩:=eZ k (by omega)
      have sX:decide (k=i)=false:=by simp;omega
      have Bz:=lX (by omega)
      cases ml:listed.getD k false with
      |true =>
       rw [QL (S:=λk=>(listed.setIfInBounds i true).getD k false) (by show (listed.setIfInBounds i true).getD k false=true;rw [qQ k,ml];simp),QL (S:=λk=>listed.getD k false) ml]
       have mi:=(Oper.apart_spec (js k ok (by omega) fj ml).1).2.1
       have hdk:dst k=ok.dst:=by simp [dst,fj]
       have hlen:(eS e0 dst V (λk=>(listed.setIfInBounds i true).getD k false) k).length=(eS e0 dst V (λk=>listed.getD k false) k).length:=by rw [GX,GX]
       by_cases Xf:o.dst=some t
       .have aS:dst k≠some t:=by rw [hdk];exact λe=>mi t Xf e
        rw [IL aS,Bz]
        exact Z3 (by rw [SP]) (IL aS).symm
       .rw [IL Xf] at Bz
        rw [IL Xf]
        exact Z3 hlen Bz
      |false =>
       rw [Jp (S:=λk=>(listed.setIfInBounds i true).getD k false) (by show (listed.setIfInBounds i true).getD k false=false;rw [qQ k,ml,sX];rfl),Jp (S:=λk=>listed.getD k false) ml]
       exact Bz
    exact p2 _ (by omega) (bo _)
   have vh:(listed.setIfInBounds i true).size=ops.size:=by simp [RN]
   have oR:(List.range ops.size).countP (λk => !(listed.setIfInBounds i true).getD k false)<=fuel:=by
    have:=zoq (p:=λk => !listed.getD k false) (p':=λk => !(listed.setIfInBounds i true).getD k false) (List.range ops.size)
     (λk _ hk=>by rw [qQ k] at hk;simp at hk ⊢;exact hk.2) ⟨i,zj.2 sV,by rw [H5];rfl,by rw [qQ i];simp⟩
    omega
   have lF:∀ (j:Nat) (oj:Oper),ops[j]? = some oj->(listed.setIfInBounds i true).getD j false=true->∀ e∈oj.after.toList,Region.binds .any e=true->(listed.setIfInBounds i true).getD e.on false=true:=by
    intro j oj qp hj e he hb
    rw [qQ e.on]
    rw [qQ j] at hj
    by_cases lx:j=i
    .subst lx
     rw [ho] at qp
     cases qp
     rw [CX e he hb]
     simp
    .have RI:listed.getD j false=true:=by simpa [lx] using hj
     rw [kU j oj qp RI e he hb]
     simp
   have oT:∀ (ρ':cn) (u:ah),(∀ A L,ρ A=some L->ρ' A=some L)->VR ρ' (V i) u->cq ρ' (eS e0 dst V (λk=>(listed.setIfInBounds i true).getD k false) ops.size) (a.put o.dst u).tmps:=by
    intro ρ' u XB hv
    have h1:=(kV.mono XB).put hv o.dst
    exact ⟨by rw [GX,<- h1.1,SP,GX],λt=>by rw [MB t];exact h1.2 t⟩
   have oS:∀ u,(a.put o.dst u).defers=a0.defers:=λu=>by cases o.dst <;> exact u4
   obtain ⟨m,il,fS,yd,wA⟩:=vt
   have lf:ks.getD i 2 % 3≠2->∀ (ρ':cn) (w':World),bR ρ' (H m) w'->∃ m,m<=ops.size/\bR ρ' (H m) w'/\(∀ k,k < m->ks.getD k 2 % 3=2->(listed.setIfInBounds i true).getD k false=true)/\(m=ops.size\/(ks.getD m 2 % 3=2/\(listed.setIfInBounds i true).getD m false=false)):=by
    intro wx ρ' w' dR
    refine ⟨m,il,dR,λk h1 h2=>by rw [qQ k,yd k h1 h2];simp,?_⟩
    rcases wA with h1|⟨h1,h2⟩
    .exact .inl h1
    .refine .inr ⟨h1,?_⟩
     have:m≠i:=λe=>by rw [e] at h1;exact wx h1
     rw [qQ m,h2]
     simp [this]
   have jE:∀ (ρ':cn),(∀ A L,ρ' A=some L->ρ A=some L\/((H i).size<=A/\A < (H (i+1)).size)) ->
    ∀ A L,ρ' A=some L->ρ0 A=some L\/∃ j,j < ops.size/\(listed.setIfInBounds i true).getD j false=true/\(H j).size<=A/\A < (H (j+1)).size:=by
    intro ρ' yB A L hA
    rcases yB A L hA with h1|h1
    .rcases xL A L h1 with h2|⟨j,h2,h3,h4⟩
     .exact .inl h2
     .exact .inr ⟨j,h2,by rw [qQ j,h3];simp,h4⟩
    .exact .inr ⟨i,sV,by rw [qQ i];simp,h1⟩
   have pN:∀ A,(H i).size<=A->A < (H (i+1)).size->ρ A=none:=by
    intro A h1 h2
    cases hA:ρ A with
    |none=>rfl
    |some L =>
     exfalso
     rcases xL A L hA with h3|⟨j,h3,h4,h5,h6⟩
     .have h7:=(cI 0 i (by omega) (by omega)).size
      have h8:=(cI (i+1) ops.size (by omega) (bo _)).size
      rw [sM] at h7
      rw [zw] at h8
      rw [RD A (by omega) (by omega)] at h3
      cases h3
     .have lx:j≠i:=λe=>by subst e;rw [H5] at h4;cases h4
      rcases lB j i with aW|kW
      .have:=(cI (j+1) i (by omega) (by omega)).size
       omega
      .have:=(cI (i+1) j (by omega) (by omega)).size
       omega
   unfold wpOpIn
   simp only [ho]
   rw [zkS kV,Nk]
   rcases ng i o ho with ⟨gW,h2,lG,Rs,_,hk⟩|⟨gW,hv,Rs,_,hk⟩
   .rw [aB gW]
    have oW:jQ ρ o:=(cE o (by simpa using Array.mem_of_getElem? ho)).mono cQ.grow
    have hG:=WJ.mono cQ.grow
    have xP:∀ hx,gP P T C (eS e0 dst V (λk=>listed.getD k false) ops.size) o hx=gP P T C (E i) o hx:=λhx=>zoC hx CT
    by_cases hb:tB T o=true
    .rw [zjK hb] at hk
     have xO:=(zfg hb lG).2 (H m)
     have ml:ks.getD i 2 % 3≠2:=by omega
     have pP:=Dl (h':=H m) hT hC hG fS kV oW (λA h1 h2=>by omega) (by rw [xP];exact xO)
     refine pP.wp (Dn lG) λρ' u w' f1 s1 v1=>?_
     have gL:∀ A L,ρ' A=some L->ρ A=some L:=by
      intro A L hA
      cases hρ:ρ A with
      |some L1=>have:=f1.grow A L1 hρ;rw [hA] at this;exact this.symm
      |none=>have:=f1.fresh A L hA hρ;omega
     refine ih _ ρ' _ w' vh oR lF (oT ρ' u f1.grow v1) (oS u) (lf ml ρ' w' s1) (jE ρ' λA L hA=>.inl (gL A L hA)) ?_
     have k1:=cI m ops.size il (bo _)
     have k2:=cI 0 m (by omega) il
     rw [zw] at k1
     rw [sM] at k2
     exact cQ.step f1 k1.low k1.size k2.size
    .have kI:=cI i ops.size (by omega) (bo _)
     have R3:=cI (i+1) ops.size (by omega) (bo _)
     have R2:=cI 0 i (by omega) (by omega)
     rw [zw] at kI R3
     rw [sM] at R2
     have oo:(H (i+1)).size=h2.size:=by rw [Rs]
     have tZ:h'.low<=h2.low:=by
      have h3:=R3.low
      rw [Rs] at h3
      exact hY h3 (DQ _ _)
     have xR:∀ A,(H (i+1)).get A=h2.get A:=λA=>by rw [Rs];rfl
     by_cases eM:(H i).size<=h2.low
     ./- it turns nothing that is there -/
      obtain ⟨oU,wx,sY⟩:=zht (T:=T) (e:=E i) hb eM
      rw [<- hk] at oU wx sY
      by_cases Fm:m < i
      ./- a load of one block, ahead of what turns another -/
       obtain ⟨hmk,RP⟩:ks.getD m 2 % 3=2/\listed.getD m false=false:=by
        rcases wA with h3|h3
        .omega
        .exact h3
       obtain ⟨om,Im⟩:=eZ m (by omega)
       have xD:∀ k ok,m < k->ops[k]? = some ok->listed.getD k false=true->ks.getD k 2 % 3=0:=by
        intro k ok h3 fj h7
        rcases yl m k om ok h3 Im fj with h8|h8
        .have:=zjQ (S:=λj=>listed.getD j false=true) m6 kU k k ok m (bo _) fj (kU k ok fj h7) h8
         rw [RP] at this
         cases this
        .have:=I6 hmk h8.2
         omega
       have MI:∀ k,m<=k->k < ops.size->ks.getD k 2 % 3=2->listed.getD k false=false:=by
        intro k h3 h4 h5
        by_cases h6:k=m
        .rw [h6];exact RP
        .cases h7:listed.getD k false with
         |false=>rfl
         |true =>
          exfalso
          obtain ⟨ok,fj⟩:=eZ k h4
          have:=xD k ok (by omega) fj h7
          omega
       have anx:=I6 hmk (mH m om Fm Im RP).2
       obtain ⟨t,a',x,aT,hx,hkv⟩:∃ t a x,o.op=.load t a/\bz (E i) a=.pointer (some x)/\ks.getD i 2=3+3*x.block:=by
        rcases sY with h3|h3|⟨_,h3⟩
        .omega
        .exact h3
        .omega
       have oZ:∀ k,m<=k->k < i->ks.getD k 2 % 3=2->5<=ks.getD k 2/\ks.getD i 2+2≠ks.getD k 2:=by
        intro k h3 h4 h5
        obtain ⟨ok,fj⟩:=eZ k (by omega)
        have:=I6 h5 (mH k ok h4 fj (MI k h3 (by omega) h5)).2
        omega
       have sQ:=lG
       unfold gP at sQ
       simp only [aT,hx,cD,da] at sQ
       obtain ⟨r,hr,M4,_⟩:=sQ
       have aW:x.block < (H i).size:=zsu hr
       have hρx:∃ L,ρ x.block=some L:=by
        have xB:a'∈o.op.operands.toList:=by rw [aT];simp [Op.operands]
        have h3:=kV.operand (oW a' xB)
        rw [CT a' xB,hx] at h3
        generalize a.eval a'=u at h3
        cases h3 with
        |ptr h=>exact ⟨_,h⟩
       have XU:x.block < (H m).size:=by
        obtain ⟨L,hL⟩:=hρx
        rcases xL x.block L hL with h3|⟨j,h3,h4,h5,h6⟩
        .have h7:=(cI 0 m (by omega) il).size
         rw [sM] at h7
         rcases lB x.block h0.size with h8|h8
         .omega
         .have h9:=kI.size
          rw [RD x.block h8 (by omega)] at h3
          cases h3
        .rcases HA j m with h7|h7|h7
         .have:=(cI (j+1) m (by omega) il).size
          omega
         .rw [h7,RP] at h4
          cases h4
         .obtain ⟨oj,qp⟩:=eZ j h3
          have:=((ng j oj qp).still (xD j oj h7 qp h4)).1
          omega
       have A7:(H i).get x.block=(H m).get x.block:=by
        have Bv:∀ d,m+d<=i->(H (m+d)).get x.block=(H m).get x.block:=by
         intro d
         induction d with
         |zero=>intro _;rfl
         |succ d Gh =>
          intro hd
          obtain ⟨ok,fj⟩:=eZ (m+d) (by omega)
          have h8:x.block < (H (m+d)).size:=dJ XU (cI m (m+d) (by omega) (by omega)).size
          rw [<- Gh (by omega)]
          by_cases h9:ks.getD (m+d) 2 % 3=2
          .have h10:=oZ (m+d) (by omega) (by omega) h9
           exact (ng (m+d) ok fj).other h9 h10.1 x.block h8 (by omega)
          .exact (ng (m+d) ok fj).same hg h9 x.block h8
        have h7:=Bv (i - m) (by omega)
        rwa [show m+(i - m)=i by omega] at h7
       have xO:gP P T C (E i) o (H m)=some (V i,H m):=by
        unfold gP
        simp only [aT,hx,cD,da]
        refine ⟨r,?_,M4,trivial⟩
        rw [zjO (h:={ H i with low:=(H i).size }) (by rw [Heap.jF];exact A7.symm)]
        exact hr
       have pP:=Dl (h':=H m) hT hC hG fS kV oW (λA h1 h2=>by omega) (by rw [xP];exact xO)
       refine pP.wp (Dn lG) λρ' u w' f1 s1 v1=>?_
       have gL:∀ A L,ρ' A=some L->ρ A=some L:=by
        intro A L hA
        cases hρ:ρ A with
        |some L1=>have:=f1.grow A L1 hρ;rw [hA] at this;exact this.symm
        |none=>have:=f1.fresh A L hA hρ;omega
       refine ih _ ρ' _ w' vh oR lF (oT ρ' u f1.grow v1) (oS u) (lf oU ρ' w' s1) (jE ρ' λA L hA=>.inl (gL A L hA)) ?_
       have k1:=cI m ops.size il (bo _)
       have k2:=cI 0 m (by omega) il
       rw [zw] at k1
       rw [sM] at k2
       exact cQ.step f1 k1.low k1.size k2.size
      have vf:i < m:=by
       rcases wA with h3|⟨h3,h4⟩
       .omega
       .rcases lB i m with h5|h5
        .exact h5
        .exfalso
         have aS:m≠i:=λe=>by rw [e] at h3;exact oU h3
         omega
      have oZ:∀ k,i<=k->k < m->ks.getD k 2 % 3=2->5<=ks.getD k 2/\((ks.getD i 2 % 3=0/\3<=ks.getD i 2/\ks.getD i 2+2≠ks.getD k 2)\/(ks.getD i 2 % 3=1/\3<=ks.getD i 2/\ks.getD k 2+2<=ks.getD i 2)):=by
       intro k h3 h4 h5
       have aS:k≠i:=λe=>by rw [e] at h5;exact oU h5
       have h6:=yd k h4 h5
       obtain ⟨ok,fj⟩:=eZ k (by omega)
       rcases zwH h5 (js k ok (by omega) fj h6).2 with h8|h8
       .exact (wx h8).elim
       .exact h8
      have A7:∀ (B j:Nat),i<=j->j<=m->B < (H j).size->(∀ k,i<=k->k < m->ks.getD k 2 % 3=2->5+3*B≠ks.getD k 2)->(H m).get B=(H j).get B:=by
       intro B j h3 h4 h5 h6
       have hx:∀ d,j+d<=m->(H (j+d)).get B=(H j).get B:=by
        intro d
        induction d with
        |zero=>intro _;rfl
        |succ d Gh =>
         intro hd
         obtain ⟨ok,fj⟩:=eZ (j+d) (by omega)
         have h7:=Gh (by omega)
         have h8:B < (H (j+d)).size:=dJ h5 (cI j (j+d) (by omega) (by omega)).size
         rw [<- h7]
         by_cases h9:ks.getD (j+d) 2 % 3=2
         .exact (ng (j+d) ok fj).other h9 (oZ (j+d) (by omega) (by omega) h9).1 B h8 (h6 (j+d) (by omega) (by omega) h9)
         .exact (ng (j+d) ok fj).same hg h9 B h8
       have h7:=hx (m - j) (by omega)
       rwa [show j+(m - j)=m by omega] at h7
      by_cases oX:∃ t a x,o.op=.load t a/\bz (E i) a=.pointer (some x)/\ks.getD i 2=3+3*x.block
      .obtain ⟨t,a',x,aT,hx,hkv⟩:=oX
       have xO:gP P T C (E i) o (H m)=some (V i,H m):=by
        unfold gP at lG ⊢
        simp only [aT,hx,cD,da] at lG ⊢
        obtain ⟨r,hr,h3,_⟩:=lG
        refine ⟨r,?_,h3,trivial⟩
        have aW:x.block < (H i).size:=zsu hr
        rw [zjO (h:={ H i with low:=(H i).size }) (by rw [Heap.jF];exact A7 x.block i (bo _) (by omega) aW (λk h4 h5 h6=>by have:=(oZ k h4 h5 h6).2;omega))]
        exact hr
       have pP:=Dl (h':=H m) hT hC hG fS kV oW (λA h1 h2=>by omega) (by rw [xP];exact xO)
       refine pP.wp (Dn lG) λρ' u w' f1 s1 v1=>?_
       have gL:∀ A L,ρ' A=some L->ρ A=some L:=by
        intro A L hA
        cases hρ:ρ A with
        |some L1=>have:=f1.grow A L1 hρ;rw [hA] at this;exact this.symm
        |none=>have:=f1.fresh A L hA hρ;omega
       refine ih _ ρ' _ w' vh oR lF (oT ρ' u f1.grow v1) (oS u) (lf oU ρ' w' s1) (jE ρ' λA L hA=>.inl (gL A L hA)) ?_
       have k1:=cI m ops.size il (bo _)
       have k2:=cI 0 m (by omega) il
       rw [zw] at k1
       rw [sM] at k2
       exact cQ.step f1 k1.low k1.size k2.size
      have XZ:∃ hx ES:Heap,hx.size=(H i).size/\bR ρ hx w/\gP P T C (E i) o hx=some (V i,ES)/\ES.size=h2.size/\h'.low<=ES.low/\(H i).size<=ES.low/\∀ A,(H i).size<=A->A < h2.size->(H m).get A=ES.get A:=by
       rcases sY with h3|h3|⟨⟨t,n,ps,aT⟩,hkv⟩
       .have kZ:∀ k,i<=k->k < m->ks.getD k 2 % 3≠2:=by
         intro k h4 h5 h6
         have:=(oZ k h4 h5 h6).2
         omega
        have hgI:∀ A,A < (H i).size->(H m).get A=(H i).get A:=gL i m (by omega) il kZ
        have Fv:∀ A,A < (H (i+1)).size->(H m).get A=(H (i+1)).get A:=gL (i+1) m (by omega) il (λk h3 h4=>kZ k (by omega) h4)
        refine ⟨{ H i with low:=(H i).size },h2,rfl,?_,lG,rfl,tZ,eM,λA h4 h5=>by rw [Fv A (by omega),xR A]⟩
        refine fS.swap λA L hA=>?_
        rw [Heap.jF]
        rcases lB A (H i).size with h3|h3
        .exact .inl (hgI A h3).symm
        .right
         unfold Heap.get
         rw [aA (by omega)]
       .exact (oX h3).elim
       .have anS:=(cI i m (by omega) il).size
        have sQ:=lG
        unfold gP at sQ
        simp only [aT] at sQ
        obtain ⟨b,nF,CF⟩:=zjk (h1:=(⟨(H i).size,(H m).tr,(H i).size⟩:Heap)) sQ rfl
        have yb:h2.low=(H i).size:=by rw [nF];rfl
        have Br:h2.size=(H i).size+1:=by rw [nF];rfl
        refine ⟨⟨(H i).size,(H m).tr,(H i).size⟩,_,rfl,?_,by unfold gP;simp only [aT];exact CF,by rw [Br];rfl,by rw [yb] at tZ;exact tZ,bo _,λA h4 h5=>?_⟩
        .refine fS.swap λA L hA=>?_
         unfold Heap.get
         rcases lB A (H i).size with h3|h3
         .left
          rw [aB h3,aB (by omega)]
         .right
          rw [aA (show ¬ A < (H i).size by omega)]
        .have hA:A=(H i).size:=by omega
         subst hA
         rw [A7 _ (i+1) (by omega) (by omega) (by rw [oo,Br];omega) (λk h6 h7 h8=>by have:=(oZ k h6 h7 h8).2;omega),xR,nF,Heap.bC,Heap.bC,aB rfl,aB rfl]
      obtain ⟨hx,ES,o8,yq,Xl,h2s,yb,XC,hN⟩:=XZ
      have pP:=Dl (h':=ES) hT hC hG yq kV oW (λA h3 h4=>pN A (by omega) (by omega)) (by rw [xP];exact Xl)
      refine pP.wp (Dn lG) λρ' u w' f1 s1 v1=>?_
      have kY:∀ A L,ρ' A=some L->ρ A=none->(H i).size<=A/\A < h2.size/\w.heap.size<=L.b:=by
       intro A L hA hn
       obtain ⟨h3,h4,h5⟩:=f1.fresh A L hA hn
       refine ⟨by omega,by omega,?_⟩
       rcases h5 with h5|⟨A0,L0,h6,_,h7,h8⟩
       .exact h5
       .rw [pN A0 (by omega) (by omega)] at h6
        cases h6
      have Gd:∀ b,b < w.heap.size->w'.heap[b]? = w.heap[b]? := by
       intro b oP
       refine f1.keep b oP λA L hA _=>?_
       rcases lB A (H i).size with h3|h3
       .left;omega
       .right
        rcases lB A h2.size with h4|h4
        .rw [pN A h3 (by omega)] at hA;cases hA
        .omega
      have yp:bR ρ' (H m) w':=by
       refine ⟨λA L hA=>?_,λA A' L L' hA dO aS jG=>?_⟩
       .cases hρ:ρ A with
        |none =>
         obtain ⟨h3,h4,_⟩:=kY A L hA hρ
         rw [hN A h3 h4]
         exact s1.j5 A L hA
        |some L1 =>
         have e:L1=L:=by have:=f1.grow A L1 hρ;rw [hA] at this;exact (Option.some.inj this).symm
         subst e
         exact (fS.j5 A L1 hρ).keep f1.grow f1.size λ_=>Gd L1.b (fS.lt hρ)
       .cases hρ:ρ A with
        |none =>
         obtain ⟨h3,h4,h5⟩:=kY A L hA hρ
         cases yB:ρ A' with
         |none =>
          obtain ⟨h6,h7,h8⟩:=kY A' L' dO yB
          have hx:=s1.inj A A' L L' hA dO aS jG
          unfold live nh at hx ⊢
          rw [hN A h3 h4,hN A' h6 h7]
          exact hx
         |some L1 =>
          have e:L1=L':=by have:=f1.grow A' L1 yB;rw [dO] at this;exact (Option.some.inj this).symm
          subst e
          have:=fS.lt yB
          omega
        |some L1 =>
         have e:L1=L:=by have:=f1.grow A L1 hρ;rw [hA] at this;exact (Option.some.inj this).symm
         subst e
         cases yB:ρ A' with
         |none =>
          obtain ⟨h6,h7,h8⟩:=kY A' L' dO yB
          have:=fS.lt hρ
          omega
         |some L2 =>
          have e:L2=L':=by have:=f1.grow A' L2 yB;rw [dO] at this;exact (Option.some.inj this).symm
          subst e
          exact fS.inj A A' L1 L2 hρ yB aS jG
      refine ih _ ρ' _ w' vh oR lF (oT ρ' u f1.grow v1) (oS u) ?_ (jE ρ' λA L hA=>?_) (cQ.step f1 yb (by have:=R3.size;omega) (by rw [o8];exact R2.size))
      .refine ⟨m,il,yp,λk h3 h4=>by rw [qQ k,yd k h3 h4];simp,?_⟩
       rcases wA with h3|⟨h3,h4⟩
       .exact .inl h3
       .refine .inr ⟨h3,?_⟩
        rw [qQ m,h4,show decide (m=i)=false by simp;omega]
        rfl
      .cases hρ:ρ A with
       |none=>right;have:=kY A L hA hρ;omega
       |some L1=>left;have:=f1.grow A L1 hρ;rw [hA] at this;rw [this]
     .obtain ⟨oU,_⟩:=SM (T:=T) (e:=E i) hb eM
      rw [<- hk] at oU
      have hmi:m=i:=by
       rcases HA m i with h3|h3|h3
       .exfalso
        rcases wA with h4|⟨h4,h5⟩
        .omega
        .obtain ⟨om,Im⟩:=eZ m (by omega)
         have:=I6 h4 (mH m om h3 Im h5).2
         omega
       .exact h3
       .have:=yd i h3 oU
        rw [H5] at this
        cases this
      subst hmi
      have yq:bR ρ { H m with low:=(H m).size } w:=fS.swap λA L _=>.inl rfl
      have pP:=Dl (h':=h2) hT hC hG yq kV oW (λA h3 h4=>pN A h3 (by omega)) (by rw [xP];exact lG)
      refine pP.wp (Dn lG) λρ' u w' f1 s1 v1=>?_
      have MR:∃ m',m+1<=m'/\m'<=ops.size/\(∀ k,m+1<=k->k < m'->ks.getD k 2 % 3≠2)/\(m'=ops.size\/ks.getD m' 2 % 3=2):=by
       have hx:∀ d,d<=ops.size - (m+1)->(∀ k,m+1<=k->k < m+1+d->ks.getD k 2 % 3≠2)\/∃ m',m+1<=m'/\m'<=ops.size/\(∀ k,m+1<=k->k < m'->ks.getD k 2 % 3≠2)/\(m'=ops.size\/ks.getD m' 2 % 3=2):=by
        intro d
        induction d with
        |zero=>intro _;left;intro k h3 h4;omega
        |succ d Gh =>
         intro hd
         rcases Gh (by omega) with h3|h3
         .by_cases h4:ks.getD (m+1+d) 2 % 3=2
          .exact .inr ⟨m+1+d,by omega,by omega,h3,.inr h4⟩
          .left
           intro k h5 h6
           by_cases h7:k=m+1+d
           .rw [h7];exact h4
           .exact h3 k h5 (by omega)
         .exact .inr h3
       rcases hx (ops.size - (m+1)) (bo _) with h3|h3
       .exact ⟨ops.size,by omega,bo _,λk h4 h5=>h3 k h4 (by omega),.inl rfl⟩
       .exact h3
      obtain ⟨m',XW,FH,MN,XY⟩:=MR
      have Fv:∀ A,A < (H (m+1)).size->(H m').get A=(H (m+1)).get A:=gL (m+1) m' XW FH MN
      have Ba:∀ A L,ρ A=some L->A < h2.size\/(ρ0 A=some L/\h'.size<=A):=by
       intro A L hA
       rcases xL A L hA with h3|⟨j,h3,h4,h5,h6⟩
       .rcases lB A h2.size with h7|h7
        .exact .inl h7
        .rcases lB A h'.size with h8|h8
         .have h9:=R2.size
          have h10:=(cI m (m+1) (by omega) (by omega)).size
          rw [RD A (by omega) h8] at h3
          cases h3
         .exact .inr ⟨h3,h8⟩
       .left
        rcases lB j (m+1) with h7|h7
        .have:=(cI (j+1) (m+1) (by omega) (by omega)).size
         omega
        .exfalso
         obtain ⟨oj,qp⟩:=eZ j h3
         have h9:ks.getD j 2 % 3=0:=by
          have:=I6 oU (js j oj (by omega) qp h4).2
          omega
         have:=((ng j oj qp).still h9).1
         omega
      have yp:bR ρ' (H m') w':=by
       refine s1.swap λA L hA=>?_
       have dO:A < h2.size\/h'.size<=A:=by
        cases hρ:ρ A with
        |none=>left;exact (f1.fresh A L hA hρ).2.1
        |some L1 =>
         rcases Ba A L1 hρ with h3|h3
         .exact .inl h3
         .exact .inr h3.2
       rcases dO with h3|h3
       .left
        rw [Fv A (by omega),xR A]
       .right
        have h4:=(cI m' ops.size FH (bo _)).size
        rw [zw] at h4
        unfold Heap.get
        rw [aA (by omega)]
      refine ih _ ρ' _ w' vh oR lF (oT ρ' u f1.grow v1) (oS u) ⟨m',FH,yp,?_,?_⟩ (jE ρ' λA L hA=>?_) (cQ.step f1 tZ (by have:=R3.size;omega) R2.size)
      .intro k h3 h4
       rw [qQ k]
       rcases lB k (m+1) with h5|h5
       .by_cases h6:k=m
        .simp [h6]
        .rw [yd k (by omega) h4];simp
       .exact (MN k h5 h3 h4).elim
      .rcases XY with h3|h3
       .exact .inl h3
       .rcases lB m' ops.size with h4|h4
        .refine .inr ⟨h3,?_⟩
         rw [qQ m',show decide (m'=m)=false by simp;omega,Bool.false_or]
         cases oP:listed.getD m' false with
         |false=>rfl
         |true =>
          exfalso
          obtain ⟨om,Im⟩:=eZ m' h4
          have:=I6 oU (js m' om (by omega) Im oP).2
          omega
        .exact .inl (by omega)
      .cases hρ:ρ A with
       |none =>
        right
        obtain ⟨h3,h4,_⟩:=f1.fresh A L hA hρ
        have zs:(H m).size<=A:=h3
        omega
       |some L1=>left;have:=f1.grow A L1 hρ;rw [hA] at this;rw [this]
   .rw [aA (by rw [gW];simp)]
    refine ⟨λ_ _=>trivial,?_⟩
    have hu:VR ρ (V i) undef:=by rw [hv];exact .undef ρ
    exact ih _ ρ _ w vh oR lF (oT ρ undef (λ_ _ h=>h) hu) (oS undef) (lf (by omega) ρ w fS) (jE ρ λA L hA=>.inl hA) cQ
 have wx:=cI 0 ops.size (by omega) (bo _)
 rw [sM,zw] at wx
 have sR:∀ k,(Array.replicate ops.size false).getD k false=false:=by
  intro k
  rcases lB k ops.size with h1|h1 <;> simp [h1]
 have qW:∀ k,eS e0 dst V (λk=>(Array.replicate ops.size false).getD k false) k=e0:=by
  intro k
  induction k with
  |zero=>rfl
  |succ k ih=>rw [Jp (S:=λk=>(Array.replicate ops.size false).getD k false) (sR k),ih]
 refine main ops.size _ ρ0 a0 _ (by simp) (by have:=List.countP_le_length (p:=λk => !(Array.replicate ops.size false).getD k false) (l:=List.range ops.size);simpa using this) ?_ ?_ rfl ?_ ?_ ?_
 .intro j o _ hj
  rw [sR j] at hj
  cases hj
 .rw [qW];exact Xg
 ./- the first that may turn something -/
  have Fp:∃ m,m<=ops.size/\(∀ k,k < m->ks.getD k 2 % 3≠2)/\(m=ops.size\/ks.getD m 2 % 3=2):=by
   have hx:∀ d,d<=ops.size->(∀ k,k < d->ks.getD k 2 % 3≠2)\/∃ m,m<=ops.size/\(∀ k,k < m->ks.getD k 2 % 3≠2)/\(m=ops.size\/ks.getD m 2 % 3=2):=by
    intro d
    induction d with
    |zero=>intro _;left;intro k h4;omega
    |succ d Gh =>
     intro hd
     rcases Gh (by omega) with h3|h3
     .by_cases h4:ks.getD d 2 % 3=2
      .exact .inr ⟨d,by omega,h3,.inr h4⟩
      .left
       intro k h6
       by_cases h7:k=d
       .rw [h7];exact h4
       .exact h3 k (by omega)
     .exact .inr h3
   rcases hx ops.size (bo _) with h3|h3
   .exact ⟨ops.size,bo _,h3,.inl rfl⟩
   .exact h3
  obtain ⟨m,il,fS,yd⟩:=Fp
  refine ⟨m,il,?_,λk h1 h2=>(fS k h1 h2).elim,?_⟩
  .have jV:bR ρ0 h0 { w0 with drawn:=w0.drawn+1 }:=rT.same rfl
   refine jV.swap λA L hA=>?_
   rcases lB A h0.size with h1|h1
   .left
    have:=gL 0 m (by omega) il (λk _ h3=>fS k h3) A (by rw [sM];exact h1)
    rw [this,sM]
   .rcases lB A h'.size with h2|h2
    .rw [RD A h1 h2] at hA;cases hA
    .right
     have h4:=(cI m ops.size il (bo _)).size
     rw [zw] at h4
     unfold Heap.get
     rw [aA (by omega)]
  .rcases yd with h1|h1
   .exact .inl h1
   .exact .inr ⟨h1,sR m⟩
 .intro A L hA;exact .inl hA
 .exact ⟨λ_ _ h=>h,λA L h1 h2=>(by rw [h1] at h2;cases h2),rfl,rfl,rfl,bo _,wx.size,wx.low,λ_ _ _=>rfl,wx.get⟩
end
end Go.Am
namespace Go.Am
open Go.RowKit
variable {C:Fn->List ah->Heap->Option (ah × Heap)} {v:ah} {h h':Heap} {E:Code->Env->Heap->Option (Ex × Env × Heap)} {fn:Func} {ρ:cn}

abbrev Ov:=FuncId->Option (List ah->Heap->Option (ah × Heap))

def jy:Env->List Tmp->List ah->Env
 |e,t::ts,v::vs=>jy (e.set t v) ts vs
 |e,_,_=>e
def Dt (A:Nat) (jump:Option Code) (h:Heap):Option (ah × Heap) :=
 match h.get A with
 |some (.loop env ps assign body _ _)=>some (.bool jump.isNone,h.set A (.loop env ps assign body (if jump.isNone then .ready else .done) jump))
 |_=>none
def DC (E:Code->Env->Heap->Option (Ex × Env × Heap)) (A:Nat) (args:List ah) (h:Heap):Option (ah × Heap) :=
 match h.get A with
 |some (.loop env ps assign body _ _) =>
  if args.length=ps.length then
   match E assign (jy env ps args) h with
   |some (.normal,e1,h1)=>match h1.get A with
    |some (.loop sJ Gz px xh .ready ld) =>
     (match E body e1 (h1.set A (.loop sJ Gz px xh .busy ld)) with
     |some (.normal,_,h2)=>Dt A none h2
     |some (.ret,_,h2)=>Dt A (some .ret) h2
     |some (.exit id,_,h2)=>Dt A (some (.exit id)) h2
     |none=>none)
    |_=>none
   |_=>none
  else none
 |_=>none

def zqG (d:Oper):Option Tmp:=match d.op with
 | .defer ⟨.value (.tmp t),args,_⟩=>if args.isEmpty && d.guard.isNone && d.dst.isNone then some t else none
 |_=>none
def B3:Code->Option (List Code × Oper × Tmp × Code)
 | .seq (.region id ops false) b=>(match ops.toList with
  | [m,d]=>(match zqG d with
   |some t=>if m.guard.isNone then some ([],m,t,b) else (B3 b).map λ(pre,m,t,r)=>(.region id ops false::pre,m,t,r)
   |none=>(B3 b).map λ(pre,m,t,r)=>(.region id ops false::pre,m,t,r))
  |_=>(B3 b).map λ(pre,m,t,r)=>(.region id ops false::pre,m,t,r))
 | .seq a b=>(B3 b).map λ(pre,m,t,r)=>(a::pre,m,t,r)
 |_=>none
def vO (E:Code->Env->Heap->Option (Ex × Env × Heap)):List Code->Env->Heap->Option (Env × Heap)
 | [],e,h=>some (e,h)
 |c::cs,e,h=>match E c e h with
  |some (.normal,e',h')=>vO E cs e' h'
  |_=>none
section
variable (P:Program) (T:bO)
def vW (E:Code->Env->Heap->Option (Ex × Env × Heap)) (fn:Func) (g:ah) (e3:Env) (h3:Heap):Option (ah × Heap) :=
 match g with
 | .func (.func g) fi ca=>(T.fn g).bind λfg=>fg.body.bind λcg=>if mD cg then
  (match E cg ((fi.toList++ca.toList)++List.replicate (fg.ntmps - (fi.toList++ca.toList).length) undef) h3 with
  |some (.ret,e4,h4)=>(qf T fg e4 h4).bind λ_=>(qf T fn e3 h4).map λv=>(v,h4)
  |some (.normal,e4,h4)=>(qf T fg e4 h4).bind λ_=>(qf T fn e3 h4).map λv=>(v,h4)
  |_=>none)
  else none
 |_=>none
def DH (E:Code->Env->Heap->Option (Ex × Env × Heap)) (C:Fn->List ah->Heap->Option (ah × Heap)) (fn:Func) (c:Code) (e:Env) (h:Heap):Option (ah × Heap) :=
 (B3 c).bind λ(pre,m,t,rest)=>if pre.all mD && mD rest then
  (vO E pre e h).bind λ(e1,h1)=>(gP P T C e1 m h1).bind λ(v,h2) =>
   match E rest (put e1 m.dst v) h2 with
   |some (.ret,e3,h3)=>vW T E fn ((put e1 m.dst v).get t) e3 h3
   |some (.normal,e3,h3)=>vW T E fn ((put e1 m.dst v).get t) e3 h3
   |_=>none
 else none
end

def call (P:Program) (T:bO) (ov:Ov):Nat->Fn->List ah->Heap->Option (ah × Heap)
 |0,_,_,_=>none
 |n+1,.func f,args,h =>
  match ov f with
  |some g=>g args h
  |none =>
   (T.fn f).bind λfn=>fn.body.bind λc =>
   if T.Lw f then DH P T (eg P T (call P T ov n) (qw P T (call P T ov n)) none n) (call P T ov n) fn c (args++List.replicate (fn.ntmps - args.length) undef) h else
   match eg P T (call P T ov n) (qw P T (call P T ov n)) none n c (args++List.replicate (fn.ntmps - args.length) undef) h with
   |some (.ret,e,h')=>(qf T fn e h').map λv=>(v,h')
   |some (.normal,e,h')=>(qf T fn e h').map λv=>(v,h')
   |_=>none
 |n+1,.yield A,args,h=>DC (eg P T (call P T ov n) (qw P T (call P T ov n)) (some A) n) A args h
 |_,_,_,_=>none

def Cj (P:Program) (gs:List Nat) (ov:Ov):Prop :=
 ∀ f g,ov f=some g->∀ args h v h',g args h=some (v,h')->bA h h'/\∀ ρ w (aO:Array ah),cX gs ρ->bR ρ h w->fQ ρ h h'->cx ρ args aO.toList->ZD P ρ h h' w v f aO

section
variable {P:Program} {T:bO} {ov:Ov}

theorem zlb (hg:uF C) {ops:Array Oper} (l:List Oper) (e e':Env) (h h':Heap) (ks:List Nat) (ak:rZ P T C ops l e h=some (ks,e',h')):bA h h':=by
 induction l generalizing e h ks with
 |nil=>simp only [rZ,eh,da] at ak;obtain ⟨_,_,rfl⟩:=ak;exact .refl _
 |cons o l ih =>
  simp only [rZ] at ak
  split at ak
  .split at ak
   .rename_i v h2 hr
    simp only [cD,Prod.exists,da] at ak
    obtain ⟨eU,x1,x2,bT,_,rfl,rfl⟩:=ak
    have hk:=GU hg hr
    refine bA.trans ?_ (ih _ _ _ bT)
    exact ⟨hk.size,w9 _ _,λA h3 h4=>hk.get A h3 (dJ h4 (DQ _ _))⟩
   .cases ak
  .simp only [cD,Prod.exists,da] at ak
   obtain ⟨eU,x1,x2,bT,_,rfl,rfl⟩:=ak
   exact ih _ _ _ bT

theorem Dm (hg:uF C):zvs (qw P T C):=by
 intro ops e h e' h' ak
 unfold qw at ak
 split at ak
 .rename_i hr
  split at ak
  .cases ak;exact zlb hg _ _ _ _ _ _ hr
  .cases ak
 .cases ak

theorem Si {A:Nat} {jump:Option Code} (ak:Dt A jump h=some (v,h')):bA h h':=by
 unfold Dt at ak
 split at ak
 .rename_i hg;cases ak;exact .set _ (Heap.bE hg)
 .cases ak
theorem zpz (hE:∀ c e h x e' h',E c e h=some (x,e',h')->bA h h') {A:Nat} {args:List ah} (ak:DC E A args h=some (v,h')):bA h h':=by
 unfold DC at ak
 split at ak
 .split at ak
  .split at ak
   .rename_i h1 Ip
    split at ak
    .rename_i Ie
     have hk:∀ b,bA h (h1.set A b):=λb=>(hE _ _ _ _ _ _ Ip).trans (bA.set b (Heap.bE Ie))
     split at ak
     .rename_i j8;exact ((hk _).trans (hE _ _ _ _ _ _ j8)).trans (Si ak)
     .rename_i j8;exact ((hk _).trans (hE _ _ _ _ _ _ j8)).trans (Si ak)
     .rename_i j8;exact ((hk _).trans (hE _ _ _ _ _ _ j8)).trans (Si ak)
     .cases ak
    .cases ak
   .cases ak
  .cases ak
 .cases ak

theorem Su {E:Code->Env->Heap->Option (Ex × Env × Heap)} (hE:∀ c e h x e' h',E c e h=some (x,e',h')->bA h h'):∀ (pre:List Code) (e e':Env) (h h':Heap),vO E pre e h=some (e',h')->bA h h'
 | [],e,e',h,h',ak=>by simp only [vO,eh,da] at ak;obtain ⟨_,rfl⟩:=ak;exact .refl _
 |c::cs,e,e',h,h',ak=>by
  simp only [vO] at ak
  split at ak
  .rename_i hr
   exact (hE _ _ _ _ _ _ hr).trans (Su hE cs _ _ _ _ ak)
  .cases ak
theorem GV (hE:∀ c e h x e' h',E c e h=some (x,e',h')->bA h h') {g:ah} {e3:Env} {h3:Heap} (ak:vW T E fn g e3 h3=some (v,h')):bA h3 h':=by
 unfold vW at ak
 split at ak
 .simp only [cL] at ak
  obtain ⟨fg,_,cg,_,ak⟩:=ak
  split at ak
  .split at ak
   .rename_i hr
    simp only [cL,cD,da] at ak
    obtain ⟨_,_,_,_,_,rfl⟩:=ak
    exact hE _ _ _ _ _ _ hr
   .rename_i hr
    simp only [cL,cD,da] at ak
    obtain ⟨_,_,_,_,_,rfl⟩:=ak
    exact hE _ _ _ _ _ _ hr
   .cases ak
  .cases ak
 .cases ak
theorem zos (hC:uF C) (hE:∀ c e h x e' h',E c e h=some (x,e',h')->bA h h') {c:Code} {e:Env} (ak:DH P T E C fn c e h=some (v,h')):bA h h':=by
 unfold DH at ak
 simp only [cL,Prod.exists] at ak
 obtain ⟨pre,m,t,rest,_,ak⟩:=ak
 split at ak
 .simp only [cL,Prod.exists] at ak
  obtain ⟨e1,h1,hp,v1,h2,ho,ak⟩:=ak
  split at ak
  .rename_i hr
   exact (((Su hE _ _ _ _ _ hp).trans (GU hC ho)).trans (hE _ _ _ _ _ _ hr)).trans (GV hE ak)
  .rename_i hr
   exact (((Su hE _ _ _ _ _ hp).trans (GU hC ho)).trans (hE _ _ _ _ _ _ hr)).trans (GV hE ak)
  .cases ak
 .cases ak
theorem zhi {gs:List Nat} (rS:Cj P gs ov):∀ n,uF (call P T ov n)
 |0=>by intro f args h v h' ak;simp [call] at ak
 |n+1=>by
  intro f args h v h' ak
  have ih:=zhi rS n
  cases f with
  |func f =>
   simp only [call] at ak
   split at ak
   .rename_i g hg
    exact (rS f g hg args h v h' ak).1
   .simp only [cL] at ak
    obtain ⟨fn,_,c,_,ak⟩:=ak
    split at ak
    .exact zos ih (λc e h x e' h' hr=>GN ih (Dm ih) _ _ _ _ _ _ _ _ hr) ak
    split at ak
    .rename_i hr
     simp only [cD,da] at ak
     obtain ⟨_,_,_,rfl⟩:=ak
     exact GN ih (Dm ih) _ _ _ _ _ _ _ _ hr
    .rename_i hr
     simp only [cD,da] at ak
     obtain ⟨_,_,_,rfl⟩:=ak
     exact GN ih (Dm ih) _ _ _ _ _ _ _ _ hr
    .cases ak
  |yield A =>
   simp only [call] at ak
   exact zpz (λc e h x e' h' hr=>GN ih (Dm ih) _ _ _ _ _ _ _ _ hr) ak
  |_=>simp [call] at ak

theorem cq.enter {args:List ah} {aO:Array ah} (hv:cx ρ args aO.toList) (n:Nat):cq ρ (args++List.replicate (n - args.length) undef) (aO++Array.replicate (n - aO.size) undef):=by
 have hl:args.length=aO.size:=by simpa using hv.1
 refine ⟨by simp [hl],λi=>?_⟩
 rw [Env.get_eq]
 rcases lB i args.length with h1|h1
 .rw [nz h1]
  have hx:args[i]? = some args[i]:=ie h1
  obtain ⟨y,hy,dm⟩:=hv.get hx
  have h2:i < aO.size:=by omega
  have e1:(aO++Array.replicate (n - aO.size) undef).getD i undef=y:=by
   have h3:aO[i]? = some y:=by simpa using hy
   simp [Array.getElem?_append_left h2,h3]
  rw [e1,hx]
  exact dm
 .rw [qC h1]
  have e1:(aO++Array.replicate (n - aO.size) undef).getD i undef=undef:=by
   have h3:aO.size<=i:=by omega
   simp only [Array.getD_eq_getD_getElem?,Array.getElem?_append_right h3]
   by_cases h4:i - aO.size < n - aO.size
   .simp [h4]
   .simp [h4]
  rw [e1]
  by_cases h4:i - args.length < n - args.length
  .simp [h4];exact .undef ρ
  .simp [h4];exact .undef ρ

theorem cq.set {ρ:cn} {e:Env} {tmps:Array ah} (he:cq ρ e tmps) {v u:ah} (hv:VR ρ v u) (d:Nat):cq ρ (Env.set e d v) (tmps.setIfInBounds d u):=by
 have:=cq.put (a:={ tmps:=tmps,defers:=[] }) he hv (some d)
 exact this

theorem cq.jy {ρ:cn}:∀ (ps:List Tmp) (args:List ah) (aO:List ah) (e:Env) (tmps:Array ah),cq ρ e tmps->cx ρ args aO->cq ρ (Am.jy e ps args) ((ps.zip aO).foldl (λtmps (t,a)=>tmps.setIfInBounds t a) tmps)
 | [],args,aO,e,tmps,he,_=>by cases args <;> exact he
 |t::ps,[],aO,e,tmps,he,hv=>by rw [hv.of_nil];exact he
 |t::ps,v::args,aO,e,tmps,he,hv=>by
  obtain ⟨u,m,rfl,h1,h2⟩:=hv.of_cons
  exact cq.jy ps args m _ _ (he.set h1 t) h2

theorem zh0 {ρ:cn} {h:Heap} {fn:Func} {tmps:Array ah} {R:Ending->World->Prop} {n0:Nat}:∀ (rs:List Nat) (w:World),rs.Nodup->(∀ r∈rs,n0<=r/\w.heap[r]? = some (.deferred (some []))/\∀ A L,ρ A=some L->L.b≠r)->bR ρ h w ->
 (∀ w',bR ρ h w'->w'.os=w.os->w'.tape=w.tape->w'.output=w.output->w'.heap.size=w.heap.size->(∀ b,(b < n0\/∃ A L,ρ A=some L/\L.b=b)->w'.heap[b]? = w.heap[b]?)->∃ v,(results fn tmps).run P w'=.ok v w'/\R (.returned v) w') ->
 LeavesInM Fence.wide 0 P fn tmps R (rs.map λr=>{ target:=.collected r,args:=#[] }) .returning w
 | [],w,_,_,hs,hR=>hR w hs rfl rfl rfl rfl (λ_ _=>rfl)
 |r::rs,w,gw,aE,hs,hR=>by
  obtain ⟨a1,a2,a3⟩:=aE r (by simp)
  have aW:r < w.heap.size:=(mO.1 a2).1
  refine ⟨by simp,.inl ⟨r,_,rfl,run_takeDeferred a2,?_⟩⟩
  obtain ⟨FL,RR⟩:=wg.1 gw
  have dF:(w.putObj r (.deferred none)).heap.size=w.heap.size:=by rw [SA];simp
  refine zh0 (n0:=n0) rs _ RR (λq hq=>?_) ⟨λA L hA=>(hs.j5 A L hA).keep (λ_ _ h=>h) (by rw [dF];exact bo _) (λ_=>Sn (a3 A L hA)),hs.inj⟩ λw' lL h1 h2 h3 h4 h5=>?_
  .obtain ⟨b1,b2,b3⟩:=aE q (by simp [hq])
   exact ⟨b1,(Sn (λ(e:q=r)=>FL (e ▸ hq))).trans b2,b3⟩
  .refine hR w' lL h1 h2 h3 (h4.trans dF) λb hb=>(h5 b hb).trans (Sn λe=>?_)
   subst e
   rcases hb with hb|⟨A,L,hA,hb⟩
   .omega
   .exact a3 A L hA hb

inductive lC (m:Oper) (t:Tmp) (rest:Code):List Code->Code->Prop where
 |here (id:Nat) (ops:Array Oper) (d:Oper) (args:Array Operand) (ats:Array TypeId):ops.toList=[m,d]->d.op=.defer ⟨.value (.tmp t),args,ats⟩->args.isEmpty=true->m.guard=none->d.guard=none->d.dst=none->lC m t rest [] (.seq (.region id ops false) rest)
 |step (a b:Code) (pre:List Code):lC m t rest pre b->lC m t rest (a::pre) (.seq a b)
theorem zou {d:Oper} {t:Tmp} (h:zqG d=some t):∃ args ats,d.op=.defer ⟨.value (.tmp t),args,ats⟩/\args.isEmpty=true/\d.guard=none/\d.dst=none:=by
 unfold zqG at h
 split at h
 .rename_i t' args ats aT
  split at h
  .rename_i hc
   cases h
   simp only [eo,Option.isNone_iff_eq_none] at hc
   exact ⟨args,ats,aT,hc.1.1,hc.1.2,hc.2⟩
  .cases h
 .cases h
theorem zrv:∀ (c:Code) (pre:List Code) (m:Oper) (t:Tmp) (rest:Code),B3 c=some (pre,m,t,rest)->lC m t rest pre c:=by
 intro c
 induction c with
 |seq a b _ jX =>
  intro pre m t rest h
  have cZ:∀ (a:Code),((B3 b).map λ(pre,m,t,r)=>(a::pre,m,t,r))=some (pre,m,t,rest)->lC m t rest pre (.seq a b):=by
   intro a hm
   simp only [cD,Prod.exists,da] at hm
   obtain ⟨Zg,m',t',r',hs,rfl,rfl,rfl,rfl⟩:=hm
   exact .step a b Zg (jX _ _ _ _ hs)
  unfold B3 at h
  split at h
  .rename_i id ops b' heq
   cases heq
   split at h
   .rename_i m' d Bm
    split at h
    .rename_i t' hd
     split at h
     .rename_i hg
      simp only [eh,da] at h
      obtain ⟨rfl,rfl,rfl,rfl⟩:=h
      obtain ⟨args,ats,h1,h2,h3,h4⟩:=zou hd
      exact .here id ops d args ats Bm h1 h2 (by simpa using hg) h3 h4
     .exact cZ _ h
    .exact cZ _ h
   .exact cZ _ h
  .rename_i a' b' _ heq
   cases heq
   exact cZ _ h
  .cases h
 |_=>intro pre m t rest h;simp [B3] at h

theorem zot (hT:T.Fits P) {gs:List Nat} (hC:CS P gs C) (hg:uF C) 
 (hE:∀ (n0:Nat) (B:List Deferred) (c:Code) (e:Env) (h:Heap) (x:Ex) (e':Env) (h':Heap) (ρ:cn) (a:Act) (w:World) (Q:Exit->Act->World->Prop),E c e h=some (x,e',h')->cF ρ c->(true=true->mD c=true)->cX gs ρ->bR ρ h w->fQ ρ h h'->cq ρ e a.tmps->Marks n0 B true ρ w a.defers->HO ρ none none->n0<=w.heap.size ->
  (∀ ρ' a' w',Fr ρ ρ' h h' w w'->bR ρ' h' w'->cq ρ' e' a'.tmps->Marks n0 B true ρ' w' a'.defers->Q x.to a' w')->c.wpIn (WR none) 0 P Q a w)
 (zu:∀ c e h x e' h',E c e h=some (x,e',h')->bA h h')
 {c:Code} {e:Env} {w:World} {tmps:Array ah} (u7:∀ g fg cg,T.fn g=some fg->fg.body=some cg->r9 gs cg=true) (cE:cF ρ c) (hG:cX gs ρ) (hs:bR ρ h w) (hf:fQ ρ h h') (he:cq ρ e tmps)
 (ak:DH P T E C fn c e h=some (v,h')) :
 c.wpIn Fence.wide 0 P (bodyPostM Fence.wide 0 P fn λed w'=>∃ ρ' u,ed=.returned u/\Fr ρ ρ' h h' w w'/\bR ρ' h' w'/\VR ρ' v u) { tmps,defers:=[] } w:=by
 have key:∀ (pre:List Code) (m:Oper) (t:Tmp) (rest:Code) (c:Code),lC m t rest pre c->∀ (e:Env) (h1:Heap) (ρ1:cn) (w1:World) (a:Act),pre.all mD=true->mD rest=true->cF ρ1 c->cX gs ρ1->bR ρ1 h1 w1->fQ ρ1 h1 h'->cq ρ1 e a.tmps->a.defers=[]->Fr ρ ρ1 h h1 w w1 ->
  ((vO E pre e h1).bind λ(e1,h1)=>(gP P T C e1 m h1).bind λ(v,h2) =>
    match E rest (put e1 m.dst v) h2 with
    |some (.ret,e3,h3)=>vW T E fn ((put e1 m.dst v).get t) e3 h3
    |some (.normal,e3,h3)=>vW T E fn ((put e1 m.dst v).get t) e3 h3
    |_=>none)=some (v,h') ->
  c.wpIn Fence.wide 0 P (bodyPostM Fence.wide 0 P fn λed w'=>∃ ρ' u,ed=.returned u/\Fr ρ ρ' h h' w w'/\bR ρ' h' w'/\VR ρ' v u) a w1:=by
  intro pre m t rest c cR
  induction cR with
  |step a0 b0 aow _ ih =>
   intro e h1 ρ1 w1 a nc gj cE hG hs hf he hd cQ ak
   simp only [nC,eo] at nc
   simp only [vO,cL,Prod.exists] at ak
   obtain ⟨e2,h2,hp,ak⟩:=ak
   split at hp
   .rename_i e3 h3 hr
    have oU:bA h3 h':=by
     obtain ⟨v2,h4,ho,ak⟩:=ak
     have k1:=Su zu _ _ _ _ _ hp
     have k2:=GU hg ho
     split at ak
     .rename_i j8;exact ((k1.trans k2).trans (zu _ _ _ _ _ _ j8)).trans (GV zu ak)
     .rename_i j8;exact ((k1.trans k2).trans (zu _ _ _ _ _ _ j8)).trans (GV zu ak)
     .cases ak
    refine wpIn_seq ?_
    refine hE w1.heap.size [] a0 e h1 .normal e3 h3 ρ1 a w1 _ hr cE.1 (λ_=>nc.1) hG hs (hf.left oU.size) he (by rw [hd];exact Marks.nil) trivial (bo _) λρ2 a2 w2 f2 s2 r2 d2=>?_
    obtain ⟨rs,m1,_,m2,_⟩:=d2
    rw [m2 rfl] at m1
    refine ih e3 h3 ρ2 w2 a2 nc.2 gj (cE.2.mono f2.grow) (hG.mono f2.grow) s2 (hf.right f2) r2 (by simpa using m1) (cQ.trans f2) ?_
    simp only [cL,Prod.exists]
    exact ⟨e2,h2,hp,ak⟩
   .cases hp
  |here id ops d args ats Bm aT dP RO RC Xe =>
   intro e h1 ρ1 w1 a _ gj cE hG hs hf he hd cQ ak
   simp only [vO,cL,Prod.exists,eh,da] at ak
   obtain ⟨e1,bx,⟨rfl,rfl⟩,v1,h2,ho,ak⟩:=ak
   have gu:bA h2 h':=by
    split at ak
    .rename_i j8;exact (zu _ _ _ _ _ _ j8).trans (GV zu ak)
    .rename_i j8;exact (zu _ _ _ _ _ _ j8).trans (GV zu ak)
    .cases ak
   refine wpIn_seq (wpIn_region_list ?_)
   rw [Bm]
   have X8:jQ ρ1 m:=cE.1 m (by rw [Bm];simp)
   have RY:Region.wanted m (yielded ops a.tmps)=true:=by simp [Region.wanted,RO]
   rw [wpListIn,aB RY]
   have pP:=Dl hT hC hG hs he X8 (hf.left gu.size) ho
   refine pP.wp (rl:=none) (Dn ho) λρ2 u w2 f2 s2 v2=>?_
   have rO:cq ρ2 (put e m.dst v1) (a.put m.dst u).tmps:=(he.mono f2.grow).put v2 m.dst
   have jS:(a.put m.dst u).defers=[]:=by cases m.dst <;> exact hd
   have hwd:Region.wanted d (yielded ops (a.put m.dst u).tmps)=true:=by simp [Region.wanted,RC]
   rw [wpListIn,aB hwd]
   have Fx:=rO.2 t
   have FC:∃ x e3 h3,(x=Ex.ret\/x=.normal)/\E rest (put e m.dst v1) h2=some (x,e3,h3)/\vW T E fn ((put e m.dst v1).get t) e3 h3=some (v,h'):=by
    split at ak
    .rename_i e3 h3 j8;exact ⟨_,e3,h3,.inl rfl,j8,ak⟩
    .rename_i e3 h3 j8;exact ⟨_,e3,h3,.inr rfl,j8,ak⟩
    .cases ak
   obtain ⟨x,e3,h3,hx,j8,cU⟩:=FC
   unfold vW at cU
   split at cU
   .rename_i g fi ca sS
    rw [sS] at Fx
    generalize W3:(a.put m.dst u).tmps.getD t undef=ag at Fx
    cases Fx with
    |func _ q1 q2 q3 q4 =>
     rename_i Cx Cu
     have oq:cx ρ2 fi.toList Cx.toList:=⟨by simpa using q1,λi x y hx hy=>q3 i x y (by simpa using hx) (by simpa using hy)⟩
     have mK:cx ρ2 ca.toList Cu.toList:=⟨by simpa using q2,λi x y hx hy=>q4 i x y (by simpa using hx) (by simpa using hy)⟩
     simp only [cL] at cU
     obtain ⟨fg,Mt,cg,Rz,cU⟩:=cU
     split at cU
     .rename_i lK
      have hae:(a.put m.dst u).eval (.tmp t)=.func (.func g) Cx Cu:=W3
      have jU:(execOp (a.put m.dst u).eval d).run P w2=.ok (.defer { target:=.fn (.func g) Cu,args:=Cx }) w2:=by
       have Fb:args=#[]:=by simpa using dP
       simp [execOp,aT,resolve,hae,Deferred.ofValue,Fb]
      refine ⟨λfq hq=>trivial,?_⟩
      rw [show Oper.semAt Fence.wide.round (a.put m.dst u).eval d=execOp (a.put m.dst u).eval d from rfl,jU]
      simp only [Oper.uponIn,wpListIn,Xe,jS]
      have oU:bA h3 h':=GV zu (show vW T E fn (.func (.func g) fi ca) e3 h3=some (v,h') by unfold vW;simp only [Mt,dX,Rz,lK,if_true];exact cU)
      refine hE w2.heap.size [{ target:=.fn (.func g) Cu,args:=Cx }] rest _ _ _ _ _ ρ2 _ w2 _ j8 (cE.2.mono f2.grow) (λ_=>gj) (hG.mono f2.grow) s2 ((hf.right f2).left oU.size) rO Marks.nil trivial (bo _) λρ3 a3 w3 f3 s3 r3 d3=>?_
      obtain ⟨rs,m1,_,m2,_⟩:=d3
      rw [m2 rfl] at m1
      have m1':a3.defers=[{ target:=.fn (.func g) Cu,args:=Cx }]:=by simpa using m1
      have hl:LeavesInM Fence.wide 0 P fn a3.tmps (λed w'=>∃ ρ' u,ed=.returned u/\Fr ρ ρ' h h' w w'/\bR ρ' h' w'/\VR ρ' v u) a3.defers .returning w3:=by
       rw [m1']
       obtain ⟨hPg,ju,_⟩:=hT.fn g fg Mt
       have gh:¬ fg.name="runtime.NumGoroutine":=by simpa using ju
       refine ⟨by simp,.inr ⟨(λhh=>by cases hh),_,_,g,Cx++Cu,rfl,?_,λ_ _=>trivial,?_⟩⟩
       .show (callFunc g (Cx++Cu)).run P w3=_
        simp [callFunc,hPg,gh,Rz]
       .have gN:cx ρ3 (fi.toList++ca.toList) (Cx++Cu).toList:=by
         have:=(oq.append mK).mono f3.grow
         simpa using this
        have heg:=cq.enter gN fg.ntmps
        have M3:∃ y e4 h4 vg,(y=Ex.ret\/y=.normal)/\E cg ((fi.toList++ca.toList)++List.replicate (fg.ntmps - (fi.toList++ca.toList).length) undef) h3=some (y,e4,h4)/\qf T fg e4 h4=some vg/\qf T fn e3 h4=some v/\h4=h':=by
         split at cU
         .rename_i e4 h4 yo
          simp only [cL,cD,da] at cU
          obtain ⟨vg,Nf,v',Nc,rfl,rfl⟩:=cU
          exact ⟨_,e4,h4,vg,.inl rfl,yo,Nf,Nc,rfl⟩
         .rename_i e4 h4 yo
          simp only [cL,cD,da] at cU
          obtain ⟨vg,Nf,v',Nc,rfl,rfl⟩:=cU
          exact ⟨_,e4,h4,vg,.inr rfl,yo,Nf,Nc,rfl⟩
         .cases cU
        obtain ⟨y,e4,h4,vg,hy,yo,Nf,hvf,rfl⟩:=M3
        refine (callsDIn_of_wp (R:=λed w'=>∃ u,ed=.returned u/\∃ vr,(results fn a3.tmps).run P w'=.ok vr w'/\∃ ρ' u',Ending.returned vr=.returned u'/\Fr ρ ρ' h h4 w w'/\bR ρ' h4 w'/\VR ρ' v u') hPg Rz trivial ?_).mono ?_
        .refine hE w3.heap.size [] cg _ _ _ _ _ ρ3 _ w3 _ yo (.of (hG.mono (f2.trans f3).grow) (u7 g fg cg Mt Rz)) (λ_=>lK) (hG.mono (f2.trans f3).grow) s3 ((hf.right f2).right f3) heg Marks.nil trivial (bo _) λρ4 a4 w4 f4 s4 r4 d4=>?_
         obtain ⟨rs4,n1,_,n2,_⟩:=d4
         rw [n2 rfl] at n1
         have Y3:a4.defers=[]:=by simpa using n1
         obtain ⟨ug,hug,_⟩:=Sw hT s4 r4 Nf
         obtain ⟨uf,huf,YA⟩:=Sw hT s4 (r3.mono f4.grow) hvf
         have hbp:a4.defers=[]/\∃ vv,(results fg a4.tmps).run P w4=.ok vv w4/\∃ u,Ending.returned vv=.returned u/\∃ vr,(results fn a3.tmps).run P w4=.ok vr w4/\∃ ρ' u',Ending.returned vr=.returned u'/\Fr ρ ρ' h h4 w w4/\bR ρ' h4 w4/\VR ρ' v u' :=
          ⟨Y3,ug,hug,ug,rfl,uf,huf,ρ4,uf,rfl,((cQ.trans f2).trans f3).trans f4,s4,YA⟩
         rcases hy with rfl|rfl
         .exact hbp
         .exact hbp
        .rintro ed u' w' ⟨rfl,uu,rfl,vr,nI,hR⟩
         exact ⟨vr,nI,hR⟩
      rcases hx with rfl|rfl
      .exact hl
      .exact hl
     .cases cU
   .cases cU
 unfold DH at ak
 simp only [cL,Prod.exists] at ak
 obtain ⟨pre,m,t,rest,cR,ak⟩:=ak
 split at ak
 .rename_i lK
  simp only [eo] at lK
  exact key pre m t rest c (zrv _ _ _ _ _ cR) e h ρ w _ lK.1 lK.2 cE hG hs hf he rfl (Fr.refl _ _ _) ak
 .cases ak

theorem SF (na:P.follows .mixedOrders=true) (hT:T.Fits P) (rS:Cj P T.gs ov):∀ n,CS P T.gs (call P T ov n)
 |0=>by
  refine ⟨?_,?_⟩
  .intro f args h v h' ak;simp [call] at ak
  .intro f args h v h' ak;simp [call] at ak
 |n+1=>by
  have zP:=SF na hT rS n
  have lX:=zhi (T:=T) rS n
  have xK:=λ(rd rl:Option Nat) (n0:Nat)=>Z5 hT zP lX (Z6 na hT zP lX) (Dm lX) rd rl n0 [] false n
  have xV:=λ(rd:Option Nat)=>GN (P:=P) (T:=T) lX (Dm (P:=P) (T:=T) lX) rd n
  refine ⟨?_,?_⟩
  .intro f args h v h' ak ρ w aO hG hs hf hv
   simp only [call] at ak
   split at ak
   .rename_i g hg
    exact (rS f g hg args h v h' ak).2 ρ w aO hG hs hf hv
   .simp only [cL] at ak
    obtain ⟨fn,u5,c,hc,ak⟩:=ak
    obtain ⟨hP,ju,cE⟩:=hT.fn f fn u5
    right
    refine ⟨?_,?_⟩
    .have gh:¬ fn.name="runtime.NumGoroutine":=by simpa using ju
     simp [callFunc,hP,gh,hc]
    .refine callsIn_wide.1 (callsIn_of_wp_marks (n:=0) hP hc trivial ?_)
     have he:=cq.enter hv fn.ntmps
     have go:∀ (x:Ex) (e:Env) (h2:Heap),x=.ret\/x=.normal->eg P T (call P T ov n) (qw P T (call P T ov n)) none n c (args++List.replicate (fn.ntmps - args.length) undef) h=some (x,e,h2) ->
      (qf T fn e h2).map (λv=>(v,h2))=some (v,h')->c.wpIn Fence.wide 0 P (bodyPostM Fence.wide 0 P fn λed w'=>∃ ρ' u,ed=.returned u/\Fr ρ ρ' h h' w w'/\bR ρ' h' w'/\VR ρ' v u) { tmps:=aO++Array.replicate (fn.ntmps - aO.size) undef,defers:=[] } w:=by
      intro x e h2 hx hr jU
      simp only [cD,da] at jU
      obtain ⟨v',jU,rfl,rfl⟩:=jU
      refine xK none none w.heap.size c _ _ _ _ _ ρ _ w _ hr (.of hG (cE c hc)) (λq=>by cases q) hG hs hf he Marks.nil trivial (bo _) λρ' a' w' f1 s1 e1 d1=>?_
      obtain ⟨rs,m1,m2,_,m3⟩:=d1
      rw [bG] at m1
      have hl:LeavesInM Fence.wide 0 P fn a'.tmps (λed w'=>∃ ρ' u,ed=.returned u/\Fr ρ ρ' h h2 w w'/\bR ρ' h2 w'/\VR ρ' v' u) a'.defers .returning w':=by
       rw [m1]
       refine zh0 rs w' m2 m3 s1 λw2 s2 q1 q2 q3 q4 q5=>?_
       obtain ⟨u,hu,mL⟩:=Sw hT s2 e1 jU
       refine ⟨u,hu,ρ',u,rfl,⟨f1.grow,f1.fresh,q1.trans f1.os,q2.trans f1.tape,q3.trans f1.output,by rw [q4];exact f1.size,f1.gM,f1.low,λb hb aE=>?_,f1.qG⟩,s2,mL⟩
       exact (q5 b (.inl hb)).trans (f1.keep b hb aE)
      rcases hx with rfl|rfl
      .exact hl
      .exact hl
     split at ak
     .exact zot hT zP lX (λn0 B c e h x e' h' ρ a w Q=>Z5 hT zP lX (Z6 na hT zP lX) (Dm lX) none none n0 B true n c e h x e' h' ρ a w Q) (λc e h x e' h' hr=>xV none c e h x e' h' hr) (λg fg cg h1 h2=>(hT.fn g fg h1).2.2 cg h2) (.of hG (cE c hc)) hG hs hf he ak
     split at ak
     .rename_i e h2 hr;exact go .ret e h2 (.inl rfl) hr ak
     .rename_i e h2 hr;exact go .normal e h2 (.inr rfl) hr ak
     .cases ak
  .intro A args h v h' ak ρ w aO L hA hG hs hf hv
   simp only [call] at ak
   unfold DC at ak
   split at ak
   .rename_i env ps assign body st gn hg
    split at ak
    .rename_i hlen
     split at ak
     .rename_i e1 h1 Ip
      split at ak
      .rename_i sJ Gz px xh ld Ie
       obtain ⟨lo,l1,l2,l3,l4,l5,l6,l7,l8,l9,_⟩:=PM hs hA hg
       have A8:args.length=aO.size:=by simpa using hv.1
       have Io:lo.params.size=ps.length:=by rw [<- l4];simp
       refine ⟨lo.fn,(lo.params.zip aO).foldl (λtmps (t,a)=>tmps.setIfInBounds t a) lo.tmps,lo.assign,lo.body,?_,?_⟩
       .simp only [Instr.yield,Sem.run_bind,run_getLoop l1,Result.andThen_ok]
        rw [aA (by omega)]
        simp
       .have key:∀ (x:Ex) (e2:Env) (h2:Heap) (jump:Option Code),eg P T (call P T ov n) (qw P T (call P T ov n)) (some A) n body e1 (h1.set A (.loop sJ Gz px xh .busy ld))=some (x,e2,h2) ->
         (jump=match x with | .normal=>none | .ret=>some .ret | .exit id=>some (.exit id))->Dt A jump h2=some (v,h')->RoundIn Fence.wide 0 P L.b lo.fn ((lo.params.zip aO).foldl (λtmps (t,a)=>tmps.setIfInBounds t a) lo.tmps) lo.assign lo.body w λed w'=>∃ ρ' u,ed=.returned u/\Fr ρ ρ' h h' w w'/\bR ρ' h' w'/\VR ρ' v u:=by
         intro x e2 h2 jump j8 xT od
         have k1:=xV (some A) _ _ _ _ _ _ Ip
         have k2:=xV (some A) _ _ _ _ _ _ j8
         have k3:=Si od
         have s1:=k2.size
         have s2:=k3.size
         rw [Heap.size_set] at s1
         refine roundIn_of_wpIn (F:=Fence.wide) trivial ?_
         have Xg:cq ρ (jy env ps args) ((lo.params.zip aO).foldl (λtmps (t,a)=>tmps.setIfInBounds t a) lo.tmps):=by
          have:=cq.jy ps args aO.toList env lo.tmps l7 hv
          rw [<- Array.foldl_toList,Array.toList_zip,l4]
          exact this
         rw [l5]
         refine xK (some A) (some L.b) w.heap.size assign _ _ _ _ _ ρ _ w _ Ip l8 (λq=>by cases q) hG hs (hf.left (by omega)) Xg Marks.nil ⟨L,hA,rfl⟩ (bo _) λρ1 a1 w1 f1 sm1 en1 d1=>?_
         have oa:=f1.grow A L hA
         obtain ⟨lo1,p1,p2,p3,p4,p5,p6,p7,p8,p9,p10⟩:=PM sm1 oa Ie
         obtain ⟨f2,sm2⟩:=p10 .busy ld
         have XR:({ lo1 with state:=LoopState.busy,pending:=ld }:Loop)={ lo1 with state:=LoopState.busy }:=by subst p3;rfl
         rw [XR] at f2 sm2
         refine ⟨_,run_beginRound p1 p2,?_⟩
         rw [l6]
         refine xK (some A) (some L.b) w.heap.size body _ _ _ _ _ ρ1 a1 _ _ j8 (l9.mono f1.grow) (λq=>by cases q) (hG.mono f1.grow) sm2 ?_ en1 (d1.step f2) ⟨L,oa,rfl⟩ (hY f1.size f2.size) λρ3 a3 w3 f3 sm3 en3 d3=>?_
         .have cQ:fQ ρ1 h1 h2:=((hf.left (by omega)).right f1)
          exact cQ
         .have Cz:=f3.grow A L oa
          unfold Dt at od
          split at od
          .rename_i LC ps3 tJ Cl lj afp Xz
           cases od
           obtain ⟨Gv,z1,z2,z3,z4,z5,z6,z7,z8,z9,ZC⟩:=PM sm3 Cz Xz
           obtain ⟨f4,sm4⟩:=ZC (if jump.isNone then .ready else .done) jump
           have lI:∃ ρ' u,Ending.returned (.bool jump.isNone)=.returned u/\Fr ρ ρ' h (h2.set A (.loop LC ps3 tJ Cl (if jump.isNone then .ready else .done) jump)) w (w3.putObj L.b (.loop { Gv with state:=if jump.isNone then .ready else .done,pending:=jump })) /\
            bR ρ' (h2.set A (.loop LC ps3 tJ Cl (if jump.isNone then .ready else .done) jump)) (w3.putObj L.b (.loop { Gv with state:=if jump.isNone then .ready else .done,pending:=jump }))/\VR ρ' (.bool jump.isNone) u :=
            ⟨ρ3,_,rfl,((f1.trans f2).trans f3).trans f4,sm4,.bool _⟩
           have eC:=run_endRound (P:=P) jump z1
           cases x with
           |normal=>subst xT;exact ⟨_,_,eC,lI⟩
           |ret=>subst xT;exact ⟨_,_,eC,lI⟩
           |exit id=>subst xT;exact ⟨_,_,eC,lI⟩
          .cases od
        split at ak
        .rename_i e2 h2 j8;exact key _ _ _ _ j8 rfl ak
        .rename_i e2 h2 j8;exact key _ _ _ _ j8 rfl ak
        .rename_i e2 h2 j8;exact key _ _ _ _ j8 rfl ak
        .cases ak
      .cases ak
     .cases ak
    .cases ak
   .cases ak

theorem Fr.below {ρ':cn} {w w':World} (f:Fr ρ ρ' h h' w w') (s8:∀ A L,ρ A=some L->A < h'.low):Below w.heap.size w w' :=
 ⟨f.os,f.tape,f.output,f.size,λk hk=>f.keep k hk λA L hA _=>.inl (s8 A L hA)⟩

theorem zyD (na:P.follows .mixedOrders=true) (hT:T.Fits P) (rS:Cj P T.gs ov) {n:Nat} {f:FuncId} {b:Bool} (hf:ov f=none) (eC:call P T ov n (.func f) [] h=some (.bool b,h')) (w:World) (ρ:cn)
 (hG:cX T.gs ρ) (hs:bR ρ h w) (cp:∀ A,h.size<=A->ρ A=none) (s8:∀ A L,ρ A=some L->A < h'.low) :
 Calls P f #[] w λe w'=>e=.returned (.bool b)/\Below w.heap.size w w':=by
 have mj:=(SF na hT rS n).fn f [] h (.bool b) h' eC ρ w #[] hG hs (λA h1 _=>cp A h1) (.nil _)
 rcases mj with ⟨ρ',u,w',h1,_⟩|⟨_,h1⟩
 .exfalso
  cases n with
  |zero=>simp [call] at eC
  |succ n =>
   simp only [call,hf,cL] at eC
   obtain ⟨fn,u5,c,hc,_⟩:=eC
   obtain ⟨hP,ju,_⟩:=hT.fn f fn u5
   have gh:¬ fn.name="runtime.NumGoroutine":=by simpa using ju
   simp [callFunc,hP,gh,hc] at h1
 .refine h1.mono ?_
  rintro e w' ⟨ρ',u,rfl,f1,s1,hv⟩
  refine ⟨?_,f1.below s8⟩
  rw [hv.bI rfl]
end
end Go.Am
