/- A region that draws its order: the plain machine goes by the text; what it comes to does not hang on the order. No condition. -/
import Derived.Test.YtjildadoepadeaaGreatDoorG0
import Derived.Orders
import Derived.OrdersIn
set_option linter.unusedSimpArgs false
namespace Go.Am
open Go.RowKit

def ze6 (T:Tab):List TypeId->Bool
 |t::_=>(match T.desc t with|some (.map _ _)=>false|_=>true)
 | []=>true
def zaC (T:Tab) (o:Oper):Bool :=
 match o.op with
 | .move _ | .assign _ | .pick _ _ _ | .build _ _ | .nilCheck _ | .binOp _ _ _ _ _ | .makeFunc _ _ _ | .slice _ _ _ _ _ | .fieldAddr _ _ _ | .field _ _ _ | .indexAddr _ _ _ | .extract _ _ | .unOp _ _ _ | .index _ _ _ | .makeInterface _ _ | .typeAssert _ _ _ _=>true
 | .convert s d _ => !za6 T s && !za6 T d
 | .call c=>match c.callee with
  | .builtin .len=>ze6 T c.argTypes.toList
  | .builtin .min | .builtin .max | .builtin .cap=>true
  |_=>false
 |_=>false

section
variable (P:Program) (T:Tab) (C:Fn->List Vly->Heap->Option (Vly × Heap))

def zb0 (o:Oper) (e:Env) (h h':Heap):Nat :=
 if zaC T o then 0 else if h.size<=h'.low then (match o.op with
  | .load _ a=>(match zaa e a with
   | .pointer (some x)=>3+3*x.block
   |_=>1)
  | .buildSlice _ _ _=>4+3*h.size
  |_=>1)
 else (match o.op with
  | .store _ a _=>(match zaa e a with
   | .pointer (some x)=>5+3*x.block
   |_=>2)
  |_=>2)
def zar (ops:Array Oper):List Oper->Env->Heap->Option (List Nat × Env × Heap)
 | [],e,h=>some ([],e,h)
 |o::r,e,h =>
  if zaL ops o e then
   match zal P T C e o { h with low:=h.size } with
   |some (v,h')=>(zar ops r (put e o.dst v) { h' with low:=min h.low h'.low }).map λ(ks,x)=>(zb0 T o e h h'::ks,x)
   |none=>none
  else (zar ops r (put e o.dst undef) h).map λ(ks,x)=>(0::ks,x)

def zdi (acc:List Nat) (o:Oper):Nat:=o.after.toList.foldl (λs e=>if Region.binds .any e then s ||| 2 ^ e.on ||| acc.getD e.on 0 else s) 0
def zcl:List Oper->List Nat->List Nat
 | [],acc=>acc
 |o::r,acc=>zcl r (acc++[zdi acc o])
def kOk (a b:Nat):Bool:=a == 0 || b == 0 || (a % 3 != 2 && b % 3 != 2) || (Nat.ble 5 b && b % 3 == 2 && Nat.ble 3 a && ((a % 3 == 0 && a+2 != b) || (a % 3 == 1 && Nat.ble (b+2) a)))
def zdn (ops:Array Oper) (ks ms:List Nat) (j:Nat):Bool :=
 match ops[j]? with
 |some oj=>oj.after.toList.all (λe => !Region.binds .any e || decide (e.on < j)) &&
  (List.range j).all λi=>(ms.getD j 0).testBit i || (match ops[i]? with
   |some oi=>oi.apart ops oj && kOk (ks.getD i 2) (ks.getD j 2)
   |none=>true)
 |none=>true
def zfo (ops:Array Oper) (ks ms:List Nat):Bool:=(List.range ops.size).all (zdn ops ks ms)

def zaj (ops:Array Oper) (e:Env) (h:Heap):Option (Env × Heap) :=
 match zar P T C ops ops.toList e h with
 |some (ks,e',h')=>if zfo ops ks (zcl ops.toList []) then some (e',h') else none
 |none=>none
end

section
variable {P:Program} {T:Tab} {C:Fn->List Vly->Heap->Option (Vly × Heap)}

theorem zgT {t:TypeId} {x:Vly} {ts:List TypeId} (hb:ze6 T (t::ts)=true) (h h2:Heap):lenA T t x h=lenA T t x h2:=by
 simp only [ze6] at hb
 unfold lenA
 split at hb
 .cases hb
 .rename_i hne
  split
  all_goals first|rfl|(rename_i hd;exact (hne _ _ hd).elim)

theorem zb6 {e:Env} {o:Oper} {h h':Heap} {v:Vly} (hb:zaC T o=true) (hev:zal P T C e o h=some (v,h')):h'=h/\∀ h2,zal P T C e o h2=some (v,h2):=by
 have hmap:∀ {r:Option Vly},(r.map λx=>(x,h))=some (v,h')->h'=h/\∀ h2:Heap,(r.map λx=>(x,h2))=some (v,h2):=by
  intro r hr
  simp only [Option.map_eq_some_iff,Prod.mk.injEq] at hr
  obtain ⟨_,rfl,rfl,rfl⟩:=hr
  exact ⟨rfl,λ_=>rfl⟩
 have hpure:zaV P e o h=some (v,h')->h'=h/\∀ h2,zaV P e o h2=some (v,h2):=by
  intro hp
  unfold zaV at hp ⊢
  split at hp
  .rename_i h1
   split at hp
   .rename_i h2
    split at hp
    .rename_i h3
     cases hp
     exact ⟨rfl,λ_=>by simp [h1,h3]⟩
    .cases hp
   .cases hp
  .cases hp
 obtain ⟨dst,op,ty,pos,after,guard⟩:=o
 cases op <;> simp only [zaC,Bool.false_eq_true] at hb <;> simp only [zal] at hev ⊢
 case move x=>cases hev;exact ⟨rfl,λ_=>rfl⟩
 case assign x=>cases hev;exact ⟨rfl,λ_=>rfl⟩
 case pick c a b =>
  split at hev
  .cases hev;exact ⟨rfl,λ_=>rfl⟩
  .cases hev
 case build=>exact hmap hev
 case nilCheck x =>
  split at hev
  .cases hev;exact ⟨rfl,λ_=>rfl⟩
  .cases hev;exact ⟨rfl,λ_=>rfl⟩
  .cases hev;exact ⟨rfl,λ_=>rfl⟩
  .cases hev
 case makeInterface=>exact hmap hev
 case typeAssert=>exact hmap hev
 case binOp=>exact hmap hev
 case makeFunc fn f c =>
  split at hev
  .cases hev;exact ⟨rfl,λ_=>rfl⟩
  .cases hev
 case slice=>exact hmap hev
 case fieldAddr=>exact hmap hev
 case field=>exact hmap hev
 case indexAddr=>exact hmap hev
 case extract t i =>
  split at hev
  .exact hmap hev
  .cases hev
 case unOp=>exact hpure hev
 case convert s d x =>
  simp only [Bool.and_eq_true,Bool.not_eq_true'] at hb
  rw [hb.1,hb.2] at hev ⊢
  exact hpure hev
 case index=>exact hpure hev
 case call c =>
  obtain ⟨callee,args,ats⟩:=c
  cases callee with
  |value f=>simp at hb
  |invoke r m=>simp at hb
  |builtin b =>
   cases b <;> simp at hb <;> simp only at hev ⊢
   case len =>
    split at hev
    .rename_i hts hxs
     rw [hts] at hb
     obtain ⟨e1,e2⟩:=hmap hev
     exact ⟨e1,λh2=>by rw [zgT hb h2 h];exact e2 h2⟩
    .cases hev
   case min=>exact hpure hev
   case max=>exact hpure hev
   case cap =>
    split at hev
    .exact hmap hev
    .cases hev

theorem zfx {e e':Env} {o:Oper} (h:Heap) (he:∀ x∈o.op.operands.toList,zaa e x=zaa e' x):zal P T C e o h=zal P T C e' o h:=by
 have hpure:(∀ cs b,o.op≠.select cs b)->zaV P e o h=zaV P e' o h:=by
  intro hsel
  unfold zaV
  have h1:execOp (zaa e) o=execOp (zaa e') o:=execOp_congr o hsel (λx hx=>he x (by simpa using hx))
  have h2:(o.op.operands.toList.all λx=>plain (zaa e x))=(o.op.operands.toList.all λx=>plain (zaa e' x)):=by
   rw [Bool.eq_iff_iff,List.all_eq_true,List.all_eq_true]
   exact ⟨λhh x hx=>by rw [<- he x hx];exact hh x hx,λhh x hx=>by rw [he x hx];exact hh x hx⟩
  rw [h1,h2]
 have hlist:∀ (xs:List Operand),(∀ x∈xs,x∈o.op.operands.toList)->xs.map (zaa e)=xs.map (zaa e'):=λxs hx=>List.map_congr_left λx hxs=>he x (hx x hxs)
 unfold zal
 dsimp only
 split
 .rename_i x hop;rw [he x (by simp [hop,Op.operands])]
 .rename_i x hop;rw [he x (by simp [hop,Op.operands])]
 .rename_i c a b hop;rw [he c (by simp [hop,Op.operands]),he a (by simp [hop,Op.operands]),he b (by simp [hop,Op.operands])]
 .rfl
 .rename_i t x hop;rw [he x (by simp [hop,Op.operands])]
 .rename_i t ps hop
  rw [List.map_congr_left (g:=λ(p:Nat × Operand)=>(p.1,zaa e' p.2)) λp hp=>by rw [he p.2 (by simp [hop,Op.operands];exact ⟨p.1,by simpa using hp⟩)]]
 .rename_i t n ps hop
  rw [List.map_congr_left (g:=λ(p:Nat × Operand)=>(p.1,zaa e' p.2)) λp hp=>by rw [he p.2 (by simp [hop,Op.operands];exact ⟨p.1,by simpa using hp⟩)]]
 .rename_i t x hop;rw [he x (by simp [hop,Op.operands])]
 .rename_i t a x hop;rw [he a (by simp [hop,Op.operands]),he x (by simp [hop,Op.operands])]
 .rename_i x hop;rw [he x (by simp [hop,Op.operands])]
 .rename_i op t x y yt hop;rw [he x (by simp [hop,Op.operands]),he y (by simp [hop,Op.operands])]
 .rename_i fn f c hop
  have h1:=hlist f.toList (λx hx=>by simp [hop,Op.operands];left;simpa using hx)
  have h2:=hlist c.toList (λx hx=>by simp [hop,Op.operands];right;simpa using hx)
  have h3:f.map (zaa e)=f.map (zaa e'):=by apply Array.ext';simpa using h1
  have h4:c.map (zaa e)=c.map (zaa e'):=by apply Array.ext';simpa using h2
  rw [h3,h4]
 .rename_i t l c hop;rw [he l (by simp [hop,Op.operands]),he c (by simp [hop,Op.operands])]
 .rename_i t x l hi m hop
  have hopt:∀ (y:Option Operand),(∀ z,y=some z->z∈o.op.operands.toList)->y.map (zaa e)=y.map (zaa e'):=by
   intro y hy
   cases y with
   |none=>rfl
   |some z=>simp [he z (hy z rfl)]
  rw [he x (by simp [hop,Op.operands]),hopt l (λz hz=>by subst hz;simp [hop,Op.operands]),hopt hi (λz hz=>by subst hz;simp [hop,Op.operands]),hopt m (λz hz=>by subst hz;simp [hop,Op.operands])]
 .rename_i s x f hop;rw [he x (by simp [hop,Op.operands])]
 .rename_i t x f hop;rw [he x (by simp [hop,Op.operands])]
 .rename_i t x i hop;rw [he x (by simp [hop,Op.operands]),he i (by simp [hop,Op.operands])]
 .rename_i t i hop;rw [he t (by simp [hop,Op.operands])]
 .rename_i hop;exact hpure (by simp [hop])
 .rename_i s d x hop;rw [he x (by simp [hop,Op.operands]),hpure (by simp [hop])]
 .rename_i hop;exact hpure (by simp [hop])
 .rename_i c hop
  obtain ⟨callee,args,ats⟩:=c
  dsimp only
  have ha:=hlist args.toList (λx hx=>by simp [hop,Op.operands,Call.operands];right;simpa using hx)
  have hmem:∀ x∈args.toList,zaa e x=zaa e' x:=λx hx=>he x (by simp [hop,Op.operands,Call.operands];right;simpa using hx)
  split
  .split
   .rename_i h1 h2;rw [hmem _ (by rw [h2];simp),hmem _ (by rw [h2];simp)]
   .rfl
  .split
   .rename_i h1 h2;rw [hmem _ (by rw [h2];simp),hmem _ (by rw [h2];simp)]
   .rfl
  .split
   .rename_i h1 h2;rw [hmem _ (by rw [h2];simp)]
   .rfl
  .split
   .rename_i h1 h2;rw [hmem _ (by rw [h2];simp)]
   .rfl
  .exact hpure (by simp [hop])
  .exact hpure (by simp [hop])
  .split
   .rename_i h1 h2;rw [hmem _ (by rw [h2];simp),hmem _ (by rw [h2];simp)]
   .rfl
  .split
   .rename_i h1 h2;rw [hmem _ (by rw [h2];simp)]
   .rfl
  .rename_i rv name
   rw [he rv (by simp [hop,Op.operands,Call.operands]),ha]
  .rename_i f
   rw [he f (by simp [hop,Op.operands,Call.operands]),ha]
  .rfl
 .rename_i t r hop
  cases r with
  |none=>rfl
  |some x=>simp only;rw [he x (by simp [hop,Op.operands])]
 .rename_i t x k ok hop;rw [he x (by simp [hop,Op.operands]),he k (by simp [hop,Op.operands])]
 .rename_i t m k x hop;rw [he m (by simp [hop,Op.operands]),he k (by simp [hop,Op.operands]),he x (by simp [hop,Op.operands])]
 .rename_i t m k x hop;rw [he m (by simp [hop,Op.operands]),he k (by simp [hop,Op.operands]),he x (by simp [hop,Op.operands])]
 .rename_i t m k hop;rw [he m (by simp [hop,Op.operands]),he k (by simp [hop,Op.operands])]
 .rename_i t m k x hop;rw [he m (by simp [hop,Op.operands]),he k (by simp [hop,Op.operands]),he x (by simp [hop,Op.operands])]
 .rename_i t x hop;rw [he x (by simp [hop,Op.operands])]
 .rename_i x xt t ok hop;rw [he x (by simp [hop,Op.operands])]
 .rename_i t x hop;rw [he x (by simp [hop,Op.operands])]
 .rename_i x s hop;rw [he x (by simp [hop,Op.operands])]
 .rename_i x hop;rw [he x (by simp [hop,Op.operands])]
 .rfl
end
end Go.Am
namespace Go.Am
open Go.RowKit

section
variable {P:Program} {T:Tab} {C:Fn->List Vly->Heap->Option (Vly × Heap)}

def StepAt (P:Program) (T:Tab) (C:Fn->List Vly->Heap->Option (Vly × Heap)) (ops:Array Oper) (o:Oper) (e e1:Env) (h h1:Heap) (v:Vly) (k:Nat):Prop :=
 (zaL ops o e=true/\∃ h2,zal P T C e o { h with low:=h.size }=some (v,h2)/\h1={ h2 with low:=min h.low h2.low }/\e1=put e o.dst v/\k=zb0 T o e h h2) \/
 (zaL ops o e=false/\v=undef/\h1=h/\e1=put e o.dst undef/\k=0)

theorem zgG {ops:Array Oper}:∀ (l:List Oper) (e e':Env) (h h':Heap) (ks:List Nat),zar P T C ops l e h=some (ks,e',h') ->
 ∃ (E:Nat->Env) (H:Nat->Heap) (V:Nat->Vly),E 0=e/\H 0=h/\E l.length=e'/\H l.length=h'/\ks.length=l.length /\
   ∀ i o,l[i]? = some o->StepAt P T C ops o (E i) (E (i+1)) (H i) (H (i+1)) (V i) (ks.getD i 2)
 | [],e,e',h,h',ks,hev=>by
  simp only [zar,Option.some.injEq,Prod.mk.injEq] at hev
  obtain ⟨rfl,rfl,rfl⟩:=hev
  exact ⟨λ_=>e,λ_=>h,λ_=>undef,rfl,rfl,rfl,rfl,rfl,λi o hi=>by simp at hi⟩
 |o::l,e,e',h,h',ks,hev=>by
  have glue:∀ (e1:Env) (h1:Heap) (v:Vly) (k:Nat) (ks':List Nat),zar P T C ops l e1 h1=some (ks',e',h')->StepAt P T C ops o e e1 h h1 v k->ks=k::ks' ->
   ∃ (E:Nat->Env) (H:Nat->Heap) (V:Nat->Vly),E 0=e/\H 0=h/\E (o::l).length=e'/\H (o::l).length=h'/\ks.length=(o::l).length /\
     ∀ i o',(o::l)[i]? = some o'->StepAt P T C ops o' (E i) (E (i+1)) (H i) (H (i+1)) (V i) (ks.getD i 2):=by
   intro e1 h1 v k ks' hr hst hk
   obtain ⟨E,H,V,h1',h2',h3',h4',h5',h6'⟩:=zgG l e1 e' h1 h' ks' hr
   subst hk
   refine ⟨λn=>match n with|0=>e|n+1=>E n,λn=>match n with|0=>h|n+1=>H n,λn=>match n with|0=>v|n+1=>V n,rfl,rfl,h3',h4',by simp [h5'],?_⟩
   intro i o' hi
   cases i with
   |zero =>
    simp only [List.getElem?_cons_zero,Option.some.injEq] at hi
    subst hi
    simp only [h1',h2',List.getD_cons_zero]
    exact hst
   |succ i =>
    have:=h6' i o' (by simpa using hi)
    simpa using this
  simp only [zar] at hev
  split at hev
  .rename_i hw
   split at hev
   .rename_i v h2 hr
    simp only [Option.map_eq_some_iff,Prod.exists,Prod.mk.injEq] at hev
    obtain ⟨ks',x1,x2,hr',hk,rfl,rfl⟩:=hev
    exact glue _ _ v _ ks' hr' (.inl ⟨hw,h2,hr,rfl,rfl,rfl⟩) hk.symm
   .cases hev
  .rename_i hw
   simp only [Option.map_eq_some_iff,Prod.exists,Prod.mk.injEq] at hev
   obtain ⟨ks',x1,x2,hr',hk,rfl,rfl⟩:=hev
   exact glue _ _ undef _ ks' hr' (.inr ⟨by simpa using hw,rfl,rfl,rfl,rfl⟩) hk.symm

theorem zca:∀ (l:List Oper) (acc:List Nat) (k:Nat),k < acc.length->(zcl l acc).getD k 0=acc.getD k 0
 | [],acc,k,_=>rfl
 |o::l,acc,k,hk=>by
  rw [zcl,zca l _ k (by simp;omega)]
  simp [List.getElem?_append_left hk]
theorem ze9:∀ (l:List Oper) (acc:List Nat) (t:Nat) (o:Oper),l[t]? = some o->∃ acc':List Nat,acc'.length=acc.length+t/\(zcl l acc).getD (acc.length+t) 0=zdi acc' o/\∀ k,k < acc.length+t->acc'.getD k 0=(zcl l acc).getD k 0
 | [],acc,t,o,h=>by simp at h
 |o'::l,acc,0,o,h=>by
  simp only [List.getElem?_cons_zero,Option.some.injEq] at h
  subst h
  refine ⟨acc,rfl,?_,λk hk=>?_⟩
  .rw [zcl,Nat.add_zero,zca l _ acc.length (by simp)]
   simp
  .rw [zcl,zca l _ k (by simp;omega)]
   simp [List.getElem?_append_left (show k < acc.length by omega)]
 |o'::l,acc,t+1,o,h=>by
  obtain ⟨acc',h1,h2,h3⟩:=ze9 l (acc++[zdi acc o']) t o (by simpa using h)
  simp only [List.length_append,List.length_singleton] at h1 h2 h3
  rw [show acc.length+(t+1)=acc.length+1+t by omega]
  exact ⟨acc',h1,h2,h3⟩

theorem zc4 {acc:List Nat} {o:Oper} {i:Nat} (h:(zdi acc o).testBit i=true):∃ e∈o.after.toList,Region.binds .any e=true/\(i=e.on\/(acc.getD e.on 0).testBit i=true):=by
 have key:∀ (l:List Edge) (s:Nat),(l.foldl (λs e=>if Region.binds .any e then s ||| 2 ^ e.on ||| acc.getD e.on 0 else s) s).testBit i=true ->
  s.testBit i=true\/∃ e∈l,Region.binds .any e=true/\(i=e.on\/(acc.getD e.on 0).testBit i=true):=by
  intro l
  induction l with
  |nil=>intro s hs;exact .inl hs
  |cons e l ih =>
   intro s hs
   rw [List.foldl_cons] at hs
   rcases ih _ hs with h1|⟨e',h1,h2,h3⟩
   .split at h1
    .rename_i hb
     rw [Nat.testBit_or,Nat.testBit_or,Bool.or_eq_true,Bool.or_eq_true] at h1
     rcases h1 with (h1|h1)|h1
     .exact .inl h1
     .rw [Nat.testBit_two_pow] at h1
      exact .inr ⟨e,by simp,hb,.inl (of_decide_eq_true h1).symm⟩
     .exact .inr ⟨e,by simp,hb,.inr h1⟩
    .exact .inl h1
   .exact .inr ⟨e',by simp [h1],h2,h3⟩
 rcases key _ 0 h with h1|h1
 .simp at h1
 .exact h1

theorem zfN {ops:Array Oper} {S:Nat->Prop} (hback:∀ (j:Nat) (o:Oper),ops[j]? = some o->∀ e∈o.after.toList,Region.binds .any e=true->e.on < j)
 (hdown:∀ (j:Nat) (o:Oper),ops[j]? = some o->S j->∀ e∈o.after.toList,Region.binds .any e=true->S e.on) :
 ∀ (n j:Nat) (o:Oper) (i:Nat),j<=n->ops[j]? = some o->(∀ e∈o.after.toList,Region.binds .any e=true->S e.on)->((zcl ops.toList []).getD j 0).testBit i=true->S i:=by
 intro n
 induction n with
 |zero =>
  intro j o i hj ho hd hb
  obtain ⟨acc',h1,h2,h3⟩:=ze9 ops.toList [] j o (by simpa using ho)
  simp only [List.length_nil,Nat.zero_add] at h1 h2 h3
  rw [h2] at hb
  obtain ⟨e,he,hbd,_⟩:=zc4 hb
  have:=hback j o ho e he hbd
  omega
 |succ n ih =>
  intro j o i hj ho hd hb
  obtain ⟨acc',h1,h2,h3⟩:=ze9 ops.toList [] j o (by simpa using ho)
  simp only [List.length_nil,Nat.zero_add] at h1 h2 h3
  rw [h2] at hb
  obtain ⟨e,he,hbd,hi⟩:=zc4 hb
  have hlt:=hback j o ho e he hbd
  have hS:=hd e he hbd
  rcases hi with rfl|hi
  .exact hS
  .rw [h3 e.on hlt] at hi
   have hjs:j < ops.size:=(Array.getElem?_eq_some_iff.1 ho).1
   have hoe:ops[e.on]? = some (ops[e.on]'(by omega)):=Array.getElem?_eq_getElem _
   exact ih e.on _ i (by omega) hoe (hdown e.on _ hoe hS) hi

def eS (e0:Env) (dst:Nat->Option Tmp) (V:Nat->Vly) (S:Nat->Bool):Nat->Env
 |0=>e0
 |k+1=>if S k then put (eS e0 dst V S k) (dst k) (V k) else eS e0 dst V S k

theorem zft {e0:Env} {dst:Nat->Option Tmp} {V:Nat->Vly} {S:Nat->Bool} {k:Nat} (h:S k=true):eS e0 dst V S (k+1)=put (eS e0 dst V S k) (dst k) (V k):=by simp only [eS,h,if_true]
theorem zeE {e0:Env} {dst:Nat->Option Tmp} {V:Nat->Vly} {S:Nat->Bool} {k:Nat} (h:S k=false):eS e0 dst V S (k+1)=eS e0 dst V S k:=by simp only [eS,h,Bool.false_eq_true,if_false]
theorem zci (e:Env) (d:Option Tmp) (v:Vly):(put e d v).length=e.length:=by cases d <;> simp [put,Env.length_set]
theorem zbn (e0:Env) (dst:Nat->Option Tmp) (V:Nat->Vly) (S:Nat->Bool):∀ k,(eS e0 dst V S k).length=e0.length
 |0=>rfl
 |k+1=>by
  simp only [eS]
  split
  .rw [zci,zbn e0 dst V S k]
  .exact zbn e0 dst V S k
theorem zbl {e:Env} {d:Option Tmp} {v:Vly} {t:Nat} (h:d≠some t):(put e d v).get t=e.get t:=by
 cases d with
 |none=>rfl
 |some d=>simp only [put,Env.get_set];rw [if_neg (λhh=>h (by rw [hh.1]))]
theorem zbT {e e':Env} (hl:e.length=e'.length) {d:Option Tmp} {v:Vly} {t:Nat} (h:e.get t=e'.get t):(put e d v).get t=(put e' d v).get t:=by
 cases d with
 |none=>exact h
 |some d=>simp only [put,Env.get_set,hl,h]

end
end Go.Am
namespace Go.Am
open Go.RowKit

theorem zfp {p p':Nat->Bool}:∀ (l:List Nat),(∀ k∈l,p' k=true->p k=true)->(∃ x∈l,p x=true/\p' x=false)->l.countP p' < l.countP p
 | [],_,h=>by obtain ⟨x,hx,_⟩:=h;simp at hx
 |a::l,hle,h=>by
  have hmono:l.countP p'<=l.countP p:=List.countP_mono_left λk hk=>hle k (by simp [hk])
  obtain ⟨x,hx,hp,hp'⟩:=h
  rw [List.countP_cons,List.countP_cons]
  rcases List.mem_cons.1 hx with rfl|hx
  .simp only [hp,hp',if_true,Bool.false_eq_true,if_false]
   omega
  .have ih:=zfp l (λk hk=>hle k (by simp [hk])) ⟨x,hx,hp,hp'⟩
   by_cases ha:p' a=true
   .rw [if_pos ha,if_pos (hle a (by simp) ha)];omega
   .rw [if_neg ha];split <;> omega

section
variable {P:Program} {T:Tab} {C:Fn->List Vly->Heap->Option (Vly × Heap)}

theorem Heap.get_low (h:Heap) (x A:Nat):Heap.get { h with low:=x } A=h.get A:=rfl

theorem StepAt.keeps (hg:zcz C) {ops:Array Oper} {o:Oper} {e e1:Env} {h h1:Heap} {v:Vly} {k:Nat} (hs:StepAt P T C ops o e e1 h h1 v k):Keeps h h1:=by
 rcases hs with ⟨_,h2,hev,rfl,_,_⟩|⟨_,_,rfl,_,_⟩
 .have hk:=zaz hg hev
  exact ⟨hk.size,Nat.min_le_left _ _,λA h3 h4=>hk.get A h3 (Nat.lt_of_lt_of_le h4 (Nat.min_le_right _ _))⟩
 .exact .refl _
theorem zcw {o:Oper} {e:Env} {h h':Heap} (hb:zaC T o=true):zb0 T o e h h'=0:=by unfold zb0;rw [if_pos hb]
theorem zcY {o:Oper} {e:Env} {h h':Heap} (hb:¬ zaC T o=true) (hl:h.size<=h'.low):zb0 T o e h h' % 3≠2/\zb0 T o e h h'≠0 /\
 (zb0 T o e h h'=1\/(∃ t a x,o.op=.load t a/\zaa e a=.pointer (some x)/\zb0 T o e h h'=3+3*x.block)\/((∃ t n ps,o.op=.buildSlice t n ps)/\zb0 T o e h h'=4+3*h.size)):=by
 unfold zb0
 rw [if_neg hb,if_pos hl]
 split
 .rename_i t a hop
  split
  .rename_i x hx
   exact ⟨by omega,by omega,.inr (.inl ⟨t,a,x,hop,hx,rfl⟩)⟩
  .exact ⟨by omega,by omega,.inl rfl⟩
 .rename_i t n ps hop
  exact ⟨by omega,by omega,.inr (.inr ⟨⟨t,n,ps,hop⟩,rfl⟩)⟩
 .exact ⟨by omega,by omega,.inl rfl⟩
theorem zcg {o:Oper} {e:Env} {h h':Heap} (hb:¬ zaC T o=true) (hl:¬ h.size<=h'.low):zb0 T o e h h' % 3=2 /\
 (zb0 T o e h h'=2\/∃ t a y x,o.op=.store t a y/\zaa e a=.pointer (some x)/\zb0 T o e h h'=5+3*x.block):=by
 unfold zb0
 rw [if_neg hb,if_neg hl]
 split
 .rename_i t a y hop
  split
  .rename_i x hx
   exact ⟨by omega,.inr ⟨t,a,y,x,hop,hx,rfl⟩⟩
  .exact ⟨rfl,.inl rfl⟩
 .exact ⟨rfl,.inl rfl⟩
theorem zdj {a b:Nat} (ha:a % 3=2) (hk:kOk a b=true):b=0:=by
 unfold kOk at hk
 simp only [Bool.or_eq_true,Bool.and_eq_true,beq_iff_eq,bne_iff_ne] at hk
 omega
theorem zhk {a b:Nat} (hb:b % 3=2) (hk:kOk a b=true):a=0\/(5<=b/\((a % 3=0/\3<=a/\a+2≠b)\/(a % 3=1/\3<=a/\b+2<=a))):=by
 unfold kOk at hk
 simp only [Bool.or_eq_true,Bool.and_eq_true,beq_iff_eq,bne_iff_ne,Nat.ble_eq] at hk
 omega
theorem StepAt.same (hg:zcz C) {ops:Array Oper} {o:Oper} {e e1:Env} {h h1:Heap} {v:Vly} {k:Nat} (hs:StepAt P T C ops o e e1 h h1 v k) (hk2:k % 3≠2):∀ A,A < h.size->h1.get A=h.get A:=by
 rcases hs with ⟨_,h2,hev,rfl,_,hk⟩|⟨_,_,rfl,_,_⟩
 .intro A hA
  by_cases hb:zaC T o=true
  .rw [Heap.get_low,(zb6 hb hev).1];rfl
  .by_cases hl:h.size<=h2.low
   .exact (zaz hg hev).get A hA (by omega)
   .exact (hk2 (by rw [hk];exact (zcg hb hl).1)).elim
 .intro A _;rfl
theorem StepAt.still {ops:Array Oper} {o:Oper} {e e1:Env} {h h1:Heap} {v:Vly} {k:Nat} (hs:StepAt P T C ops o e e1 h h1 v k) (hk0:k=0):h1.size=h.size/\∀ A,h1.get A=h.get A:=by
 rcases hs with ⟨_,h2,hev,rfl,_,hk⟩|⟨_,_,rfl,_,_⟩
 .by_cases hb:zaC T o=true
  .obtain ⟨rfl,_⟩:=zb6 hb hev
   exact ⟨rfl,λ_=>rfl⟩
  .exfalso
   by_cases hl:h.size<=h2.low
   .exact (zcY hb hl).2.1 (by rw [<- hk,hk0])
   .have:=(zcg (e:=e) hb hl).1
    omega
 .exact ⟨rfl,λ_=>rfl⟩
theorem StepAt.other {ops:Array Oper} {o:Oper} {e e1:Env} {h h1:Heap} {v:Vly} {k:Nat} (hs:StepAt P T C ops o e e1 h h1 v k) (hk2:k % 3=2) (hk5:5<=k):∀ A,5+3*A≠k->h1.get A=h.get A:=by
 rcases hs with ⟨_,h2,hev,rfl,_,hk⟩|⟨_,_,rfl,_,_⟩
 .intro A hA
  by_cases hb:zaC T o=true
  .rw [zcw hb] at hk;omega
  .by_cases hl:h.size<=h2.low
   .have:=(zcY (e:=e) hb hl).1
    omega
   .rcases (zcg (e:=e) hb hl).2 with h3|⟨t,a,y,x,hop,hx,h3⟩
    .omega
    .have hne:A≠x.block:=λe'=>by subst e';omega
     unfold zal at hev
     simp only [hop,hx,Option.map_eq_some_iff,Prod.mk.injEq] at hev
     obtain ⟨h4,hr,_,rfl⟩:=hev
     rw [Heap.get_low]
     obtain ⟨B,off,sp⟩:=x
     unfold zeS at hr
     split at hr
     .rename_i B' o' heq
      cases heq
      simp only [Option.bind_eq_some_iff] at hr
      obtain ⟨n,_,hr⟩:=hr
      split at hr
      .unfold zcP at hr
       split at hr
       .rename_i cs e' hg
        split at hr
        .cases hr
         rw [Heap.get_set _ _ _ _ (Heap.lt_of_get hg),if_neg hne]
         rfl
        .cases hr
       .cases hr
      .cases hr
     .cases hr
 .intro A _;rfl

theorem Sim.swap {ρ:Rho} {h h1:Heap} {w:World} (hs:Sim ρ h w) (hget:∀ A L,ρ A=some L->h1.get A=h.get A\/h1.get A=none):Sim ρ h1 w:=by
 refine ⟨λA L hA=>?_,λA A' L L' hA hA' hne hb=>?_⟩
 .rcases hget A L hA with h2|h2
  .rw [h2];exact hs.blk A L hA
  .rw [h2];exact hs.lt hA
 .have hlv:∀ B M,ρ B=some M->¬ live h B->¬ live h1 B:=by
   rintro B M hB hn ⟨b,h3,h4⟩
   rcases hget B M hB with h2|h2
   .exact hn ⟨b,by rw [<- h2];exact h3,h4⟩
   .rw [h2] at h3;cases h3
  rcases hs.inj A A' L L' hA hA' hne hb with h2|h2|⟨⟨c1,e1,h2⟩,⟨c2,e2,h3⟩⟩
  .exact .inl (hlv _ _ hA h2)
  .exact .inr (.inl (hlv _ _ hA' h2))
  .rcases hget A L hA with h4|h4
   .rcases hget A' L' hA' with h5|h5
    .exact .inr (.inr ⟨⟨c1,e1,by rw [h4];exact h2⟩,⟨c2,e2,by rw [h5];exact h3⟩⟩)
    .exact .inr (.inl (by rintro ⟨b,h6,_⟩;rw [h5] at h6;cases h6))
   .exact .inl (by rintro ⟨b,h6,_⟩;rw [h4] at h6;cases h6)

theorem Fr.step {ρ0 ρ ρ':Rho} {h0 hf hi hj:Heap} {w0 w w':World} (f:Fr ρ0 ρ h0 hf w0 w) (g:Fr ρ ρ' hi hj w w') (h1:hf.low<=hj.low) (h2:hj.size<=hf.size) (h3:h0.size<=hi.size):Fr ρ0 ρ' h0 hf w0 w':=by
 refine ⟨λA L hA=>g.grow A L (f.grow A L hA),?_,g.os.trans f.os,g.tape.trans f.tape,g.output.trans f.output,Nat.le_trans f.size g.size,f.hsize,f.low,?_,f.akeep⟩
 .intro A L hA hn
  cases hρ:ρ A with
  |some L1 =>
   have e:L1=L:=by have:=g.grow A L1 hρ;rw [hA] at this;exact (Option.some.inj this).symm
   subst e
   exact f.fresh A L1 hρ hn
  |none =>
   obtain ⟨k1,k2,k3⟩:=g.fresh A L hA hρ
   refine ⟨by omega,by omega,?_⟩
   rcases k3 with k3|⟨A0,L0,h5,he,hl,hl'⟩
   .exact .inl (Nat.le_trans f.size k3)
   .cases hρ0:ρ0 A0 with
    |some L1 =>
     have e:L1=L0:=by have:=f.grow A0 L1 hρ0;rw [h5] at this;exact (Option.some.inj this).symm
     subst e
     exact .inr ⟨A0,L1,hρ0,he,by omega,by omega⟩
    |none =>
     rcases (f.fresh A0 L0 h5 hρ0).2.2 with h6|⟨A1,L1,h6,he6,hl6,hl6'⟩
     .exact .inl (by omega)
     .exact .inr ⟨A1,L1,h6,he6.trans he,hl6,hl6'⟩
 .intro b hb hall
  rw [g.keep b (Nat.lt_of_lt_of_le hb f.size) ?_,f.keep b hb hall]
  intro A L hA hL
  cases hρ:ρ0 A with
  |some L0 =>
   have e:L0=L:=by have:=f.grow A L0 hρ;rw [hA] at this;exact (Option.some.inj this).symm
   subst e
   have:=hall A L0 hρ hL
   omega
  |none =>
   rcases (f.fresh A L hA hρ).2.2 with k1|⟨A0,L0,h5,he,hl,hl'⟩
   .omega
   .have:=hall A0 L0 h5 (he.trans hL)
    omega

theorem zgo {t:TypeId} {x:Addr} {h hh:Heap} (hg:hh.get x.block=h.get x.block):zb1 T t (.pointer (some x)) hh=zb1 T t (.pointer (some x)) h:=by
 obtain ⟨B,o,s⟩:=x
 cases s <;> simp only [zb1,zav,hg]
theorem zhD {t:TypeId} {x:Addr} {h:Heap} {v:Vly} (hl:zb1 T t (.pointer (some x)) h=some v):x.block < h.size:=by
 rcases Nat.lt_or_ge x.block h.size with h1|h1
 .exact h1
 .exfalso
  have hn:h.get x.block=none:=by unfold Heap.get;rw [if_neg (by omega)]
  obtain ⟨B,o,s⟩:=x
  simp only at hn
  cases s with
  |some q=>cases hl
  |none =>
   simp only [zb1,zav,hn,Option.bind_eq_some_iff] at hl
   obtain ⟨g,_,hl⟩:=hl
   cases g <;> simp at hl
theorem zdm {t:TypeId} {n:Nat} {ps:List (Nat × Vly)} {h h1 h2:Heap} {v:Vly} (hb:zau T t n ps h=some (v,h2)) (hs:h1.size=h.size):∃ b,h2=h.push b/\zau T t n ps h1=some (v,h1.push b):=by
 unfold zau at hb ⊢
 split at hb
 .rename_i e hd
  simp only [Option.bind_eq_some_iff,Prod.exists] at hb
  obtain ⟨k,by',z,hi,hb⟩:=hb
  split at hb
  .cases hb
  .rename_i hc
   simp only [Option.map_eq_some_iff,Prod.mk.injEq] at hb
   obtain ⟨cs,hcs,rfl,rfl⟩:=hb
   refine ⟨_,rfl,?_⟩
   simp only [hi,Option.bind_some]
   rw [if_neg hc,hcs,hs]
   rfl
 .cases hb
theorem zgq {ops:Array Oper} {o:Oper} {t:Nat} (h:Operand.tmp t∈o.op.operands.toList):t∈o.looksAt ops:=by
 unfold Oper.looksAt
 rw [List.mem_append]
 left
 rw [List.mem_filterMap]
 exact ⟨_,h,rfl⟩

set_option maxHeartbeats 1000000 in
theorem zco (hmix:P.follows .mixedOrders=true) (hT:T.Fits P) {gs:List Nat} (hC:CS P gs C) (hg:zcz C):DS P gs (zaj P T C):=by
 intro rl id ops e0 e' h0 h' ρ0 a0 w0 Q hev hok hG0 hs0 hf0 he0 hQ
 unfold zaj at hev
 split at hev
 case h_2=>cases hev
 rename_i ks ee hh hrun
 split at hev
 case isFalse=>cases hev
 rename_i hcomp
 cases hev
 obtain ⟨E,H,V,hE0,hH0,hEn,hHn,hkl,htr⟩:=zgG ops.toList e0 e' h0 h' ks hrun
 rw [Array.length_toList] at hEn hHn
 have htr':∀ i o,ops[i]? = some o->StepAt P T C ops o (E i) (E (i+1)) (H i) (H (i+1)) (V i) (ks.getD i 2):=λi o ho=>htr i o (by simpa using ho)
 have hopAt:∀ i,i < ops.size->∃ o,ops[i]? = some o:=λi hi=>⟨_,Array.getElem?_eq_getElem hi⟩
 have hkeeps:∀ i j,i<=j->j<=ops.size->Keeps (H i) (H j):=by
  intro i j hij
  induction hij with
  |refl=>intro _;exact .refl _
  |step hij ih =>
   rename_i k
   intro hj
   obtain ⟨o,ho⟩:=hopAt k (by omega)
   exact (ih (by omega)).trans ((htr' k o ho).keeps hg)
 have hsame:∀ i j,i<=j->j<=ops.size->(∀ k,i<=k->k < j->ks.getD k 2 % 3≠2)->∀ A,A < (H i).size->(H j).get A=(H i).get A:=by
  intro i j hij
  induction hij with
  |refl=>intro _ _ A _;rfl
  |step hij ih =>
   rename_i k
   intro hj hk A hA
   obtain ⟨o,ho⟩:=hopAt k (by omega)
   have h1:=(htr' k o ho).same hg (hk k (by omega) (Nat.lt_succ_self _)) A (Nat.lt_of_lt_of_le hA (hkeeps i k (by omega) (by omega)).size)
   exact h1.trans (ih (by omega) (λq h2 h3=>hk q h2 (by omega)) A hA)
 have hc1:∀ j,j < ops.size->zdn ops ks (zcl ops.toList []) j=true:=λj hj=>List.all_eq_true.1 hcomp j (List.mem_range.2 hj)
 have hback:∀ (j:Nat) (o:Oper),ops[j]? = some o->∀ e∈o.after.toList,Region.binds .any e=true->e.on < j:=by
  intro j o ho e he hb
  have:=hc1 j (Array.getElem?_eq_some_iff.1 ho).1
  simp only [zdn,ho,Bool.and_eq_true,List.all_eq_true] at this
  have h2:=this.1 e he
  simpa [hb] using h2
 have hpair:∀ (i j:Nat) (oi oj:Oper),i < j->ops[i]? = some oi->ops[j]? = some oj->((zcl ops.toList []).getD j 0).testBit i=true\/(oi.apart ops oj=true/\kOk (ks.getD i 2) (ks.getD j 2)=true):=by
  intro i j oi oj hij hoi hoj
  have:=hc1 j (Array.getElem?_eq_some_iff.1 hoj).1
  simp only [zdn,hoj,Bool.and_eq_true,List.all_eq_true] at this
  have h2:=this.2 i (List.mem_range.2 hij)
  simpa [hoi] using h2
 clear hcomp hc1
 let dst:Nat->Option Tmp:=λk=>(ops[k]?).bind (·.dst)
 refine wpIn_region_any hmix ?_
 have hElen:∀ k,k<=ops.size->(E k).length=e0.length:=by
  intro k
  induction k with
  |zero=>intro _;rw [hE0]
  |succ k ih =>
   intro hk
   obtain ⟨o,ho⟩:=hopAt k (by omega)
   rcases htr' k o ho with ⟨_,_,_,_,h1,_⟩|⟨_,_,_,h1,_⟩ <;> rw [h1,zci,ih (by omega)]
 have hEput:∀ k o,ops[k]? = some o->E (k+1)=put (E k) (dst k) (V k):=by
  intro k o ho
  have hd:dst k=o.dst:=by simp [dst,ho]
  rw [hd]
  rcases htr' k o ho with ⟨_,_,_,_,h1,_⟩|⟨_,h2,_,h1,_⟩
  .exact h1
  .rw [h1,h2]
 have fin:∀ (listed:Array Bool) (ρ:Rho) (a:Act) (w:World),(∀ k,k < ops.size->listed.getD k false=true)->EnvR ρ (eS e0 dst V (λk=>listed.getD k false) ops.size) a.tmps->a.defers=a0.defers ->
  (∃ m,m<=ops.size/\Sim ρ (H m) w/\(∀ k,k < m->ks.getD k 2 % 3=2->listed.getD k false=true)/\(m=ops.size\/(ks.getD m 2 % 3=2/\listed.getD m false=false)))->Fr ρ0 ρ h0 h' w0 w->Q .normal a w:=by
  intro listed ρ a w hall henv hdef hseg hfr
  obtain ⟨m,hm1,hm2,hm3,hm4⟩:=hseg
  have hmn:m=ops.size:=by
   rcases hm4 with h1|⟨_,h1⟩
   .exact h1
   .rcases Nat.lt_or_ge m ops.size with h2|h2
    .rw [hall m h2] at h1;cases h1
    .omega
  subst hmn
  rw [hHn] at hm2
  have heq:∀ k,k<=ops.size->eS e0 dst V (λk=>listed.getD k false) k=E k:=by
   intro k
   induction k with
   |zero=>intro _;exact hE0.symm
   |succ k ih =>
    intro hk
    obtain ⟨o,ho⟩:=hopAt k (by omega)
    simp only [eS]
    rw [if_pos (hall k (by omega)),ih (by omega),hEput k o ho]
  rw [heq _ (Nat.le_refl _),hEn] at henv
  exact hQ ρ a w hfr hm2 henv hdef
 have readyNil:∀ (listed:Array Bool),listed.size=ops.size->Region.ready .any ops listed=[]->∀ k,k < ops.size->listed.getD k false=true:=by
  intro listed hls hr k
  induction k using Nat.strongRecOn with
  |_ k ih =>
   intro hk
   cases hb:listed.getD k false with
   |true=>rfl
   |false =>
    exfalso
    obtain ⟨o,ho⟩:=hopAt k hk
    have hmem:k∈Region.ready .any ops listed:=by
     rw [mem_ready]
     refine ⟨?_,o,ho,λe he hbd=>?_⟩
     .have:k < listed.size:=by omega
      simp [this] at hb ⊢
      exact hb
     .have hlt:=hback k o ho e (by simpa using he) hbd
      exact ih e.on hlt (by omega)
    rw [hr] at hmem
    cases hmem
 have main:∀ (fuel:Nat) (listed:Array Bool) (ρ:Rho) (a:Act) (w:World),listed.size=ops.size->(List.range ops.size).countP (λk => !listed.getD k false)<=fuel ->
  (∀ (j:Nat) (o:Oper),ops[j]? = some o->listed.getD j false=true->∀ e∈o.after.toList,Region.binds .any e=true->listed.getD e.on false=true) ->
  EnvR ρ (eS e0 dst V (λk=>listed.getD k false) ops.size) a.tmps->a.defers=a0.defers ->
  (∃ m,m<=ops.size/\Sim ρ (H m) w/\(∀ k,k < m->ks.getD k 2 % 3=2->listed.getD k false=true)/\(m=ops.size\/(ks.getD m 2 % 3=2/\listed.getD m false=false))) ->
  (∀ A L,ρ A=some L->ρ0 A=some L\/∃ j,j < ops.size/\listed.getD j false=true/\(H j).size<=A/\A < (H (j+1)).size) ->
  Fr ρ0 ρ h0 h' w0 w->wpAnyIn (WR rl) 0 P .any ops Q fuel listed a w:=by
  intro fuel
  induction fuel with
  |zero =>
   intro listed ρ a w hls hcnt hdown henv hdef hseg hdom hfr
   have hall:∀ k,k < ops.size->listed.getD k false=true:=by
    intro k hk
    have h1:=List.countP_eq_zero.1 (Nat.le_zero.1 hcnt) k (List.mem_range.2 hk)
    simpa using h1
   refine ⟨?_,fin listed ρ a w hall henv hdef hseg hfr⟩
   apply List.eq_nil_iff_forall_not_mem.2
   intro i hi
   rw [mem_ready] at hi
   obtain ⟨h1,o,ho,_⟩:=hi
   have hlt:i < ops.size:=(Array.getElem?_eq_some_iff.1 ho).1
   have h2:=hall i hlt
   have:i < listed.size:=by omega
   simp [this] at h1 h2
   rw [h2] at h1
   cases h1
  |succ fuel ih =>
   intro listed ρ a w hls hcnt hdown henv hdef hseg hdom hfr
   refine ⟨λhr=>fin listed ρ a w (readyNil listed hls hr) henv hdef hseg hfr,?_⟩
   intro i hi
   rw [mem_ready] at hi
   obtain ⟨hi0,o,ho,hpre⟩:=hi
   have hilt:i < ops.size:=(Array.getElem?_eq_some_iff.1 ho).1
   have hSi:listed.getD i false=false:=by
    have:i < listed.size:=by omega
    simp [this] at hi0 ⊢
    exact hi0
   have hpre':∀ e∈o.after.toList,Region.binds .any e=true->listed.getD e.on false=true:=λe he hb=>hpre e (by simpa using he) hb
   have hS':∀ k,(listed.setIfInBounds i true).getD k false=(decide (k=i) || listed.getD k false):=by
    intro k
    by_cases hk:k=i
    .subst hk
     have:k < listed.size:=by omega
     simp [this]
    .simp [Array.getElem?_setIfInBounds_ne (Ne.symm hk),hk]
   have hcmpLow:∀ k ok,k < i->ops[k]? = some ok->listed.getD k false=false->ok.apart ops o=true/\kOk (ks.getD k 2) (ks.getD i 2)=true:=by
    intro k ok hki hok' hk
    rcases hpair k i ok o hki hok' ho with h1|h1
    .have:=zfN (S:=λj=>listed.getD j false=true) hback hdown i i o k (Nat.le_refl _) ho hpre' h1
     rw [hk] at this
     cases this
    .exact h1
   have hcmpHigh:∀ j oj,i < j->ops[j]? = some oj->listed.getD j false=true->o.apart ops oj=true/\kOk (ks.getD i 2) (ks.getD j 2)=true:=by
    intro j oj hij hoj hj
    rcases hpair i j o oj hij ho hoj with h1|h1
    .have:=zfN (S:=λj=>listed.getD j false=true) hback hdown j j oj i (Nat.le_refl _) hoj (hdown j oj hoj hj) h1
     rw [hSi] at this
     cases this
    .exact h1
   have hlook:∀ t,t∈o.looksAt ops->(eS e0 dst V (λk=>listed.getD k false) ops.size).get t=(E i).get t:=by
    intro t ht
    have p1:∀ k,k<=i->(eS e0 dst V (λk=>listed.getD k false) k).get t=(E k).get t:=by
     intro k
     induction k with
     |zero=>intro _;rw [hE0];rfl
     |succ k ihk =>
      intro hk
      obtain ⟨ok,hok'⟩:=hopAt k (by omega)
      rw [hEput k ok hok']
      simp only [eS]
      split
      .exact zbT (by rw [zbn,hElen k (by omega)]) (ihk (by omega))
      .rename_i hk'
       rw [ihk (by omega),zbl]
       intro hd
       have hap:=(Oper.apart_spec (hcmpLow k ok (by omega) hok' (by simpa using hk')).1).1
       exact hap t (by simpa [dst,hok'] using hd) ht
    have p2:∀ k,i<=k->k<=ops.size->(eS e0 dst V (λk=>listed.getD k false) k).get t=(eS e0 dst V (λk=>listed.getD k false) i).get t:=by
     intro k hik
     induction hik with
     |refl=>intro _;rfl
     |step hik ihk =>
      rename_i k
      intro hk
      obtain ⟨ok,hok'⟩:=hopAt k (by omega)
      simp only [eS]
      split
      .rename_i hk'
       rw [zbl,ihk (by omega)]
       intro hd
       have hne:i≠k:=λe=>by subst e;rw [hSi] at hk';cases hk'
       have hik2:i<=k:=hik
       have hap:=(Oper.apart_spec (hcmpHigh k ok (by omega) hok' hk').1).2.2
       exact hap t (by simpa [dst,hok'] using hd) ht
      .exact ihk (by omega)
    rw [p2 _ (by omega) (Nat.le_refl _),p1 i (Nat.le_refl _)]
   have hoper:∀ x∈o.op.operands.toList,zaa (eS e0 dst V (λk=>listed.getD k false) ops.size) x=zaa (E i) x:=by
    intro x hx
    cases x with
    |tmp t=>exact hlook t (zgq hx)
    |_=>rfl
   have hwant:zaL ops o (eS e0 dst V (λk=>listed.getD k false) ops.size)=zaL ops o (E i):=by
    unfold zaL
    cases hgd:o.guard with
    |none=>rfl
    |some g =>
     obtain ⟨j,b⟩:=g
     simp only
     cases hdj:(ops[j]?).bind (·.dst) with
     |none=>rfl
     |some t =>
      simp only
      rw [hlook t (by unfold Oper.looksAt;rw [List.mem_append];right;simp [hgd,hdj])]
   have hget':∀ t,(eS e0 dst V (λk=>(listed.setIfInBounds i true).getD k false) ops.size).get t=(put (eS e0 dst V (λk=>listed.getD k false) ops.size) o.dst (V i)).get t:=by
    intro t
    have hdi:dst i=o.dst:=by simp [dst,ho]
    have p1:∀ k,k<=i->eS e0 dst V (λk=>(listed.setIfInBounds i true).getD k false) k=eS e0 dst V (λk=>listed.getD k false) k:=by
     intro k
     induction k with
     |zero=>intro _;rfl
     |succ k ihk =>
      intro hk
      have hki:decide (k=i)=false:=by simp;omega
      cases hk':listed.getD k false with
      |true=>rw [zft (S:=λk=>(listed.setIfInBounds i true).getD k false) (by show (listed.setIfInBounds i true).getD k false=true;rw [hS' k,hk'];simp),zft (S:=λk=>listed.getD k false) hk',ihk (by omega)]
      |false=>rw [zeE (S:=λk=>(listed.setIfInBounds i true).getD k false) (by show (listed.setIfInBounds i true).getD k false=false;rw [hS' k,hk',hki];rfl),zeE (S:=λk=>listed.getD k false) hk',ihk (by omega)]
    have p2:∀ k,i+1<=k->k<=ops.size->(eS e0 dst V (λk=>(listed.setIfInBounds i true).getD k false) k).get t=(put (eS e0 dst V (λk=>listed.getD k false) k) o.dst (V i)).get t:=by
     intro k hik
     induction hik with
     |refl =>
      intro _
      rw [zft (S:=λk=>(listed.setIfInBounds i true).getD k false) (by show (listed.setIfInBounds i true).getD i false=true;rw [hS' i];simp),p1 i (Nat.le_refl _),zeE (S:=λk=>listed.getD k false) hSi,hdi]
     |step hik ihk =>
      rename_i k
      intro hk
      have hik2:i+1<=k:=hik
      obtain ⟨ok,hok'⟩:=hopAt k (by omega)
      have hki:decide (k=i)=false:=by simp;omega
      have ihk':=ihk (by omega)
      cases hk':listed.getD k false with
      |true =>
       rw [zft (S:=λk=>(listed.setIfInBounds i true).getD k false) (by show (listed.setIfInBounds i true).getD k false=true;rw [hS' k,hk'];simp),zft (S:=λk=>listed.getD k false) hk']
       have hap:=(Oper.apart_spec (hcmpHigh k ok (by omega) hok' hk').1).2.1
       have hdk:dst k=ok.dst:=by simp [dst,hok']
       have hlen:(eS e0 dst V (λk=>(listed.setIfInBounds i true).getD k false) k).length=(eS e0 dst V (λk=>listed.getD k false) k).length:=by rw [zbn,zbn]
       by_cases hdt:o.dst=some t
       .have hne:dst k≠some t:=by rw [hdk];exact λe=>hap t hdt e
        rw [zbl hne,ihk']
        exact zbT (by rw [zci]) (zbl hne).symm
       .rw [zbl hdt] at ihk'
        rw [zbl hdt]
        exact zbT hlen ihk'
      |false =>
       rw [zeE (S:=λk=>(listed.setIfInBounds i true).getD k false) (by show (listed.setIfInBounds i true).getD k false=false;rw [hS' k,hk',hki];rfl),zeE (S:=λk=>listed.getD k false) hk']
       exact ihk'
    exact p2 _ (by omega) (Nat.le_refl _)
   have hls':(listed.setIfInBounds i true).size=ops.size:=by simp [hls]
   have hcnt':(List.range ops.size).countP (λk => !(listed.setIfInBounds i true).getD k false)<=fuel:=by
    have:=zfp (p:=λk => !listed.getD k false) (p':=λk => !(listed.setIfInBounds i true).getD k false) (List.range ops.size)
     (λk _ hk=>by rw [hS' k] at hk;simp at hk ⊢;exact hk.2) ⟨i,List.mem_range.2 hilt,by rw [hSi];rfl,by rw [hS' i];simp⟩
    omega
   have hdown':∀ (j:Nat) (oj:Oper),ops[j]? = some oj->(listed.setIfInBounds i true).getD j false=true->∀ e∈oj.after.toList,Region.binds .any e=true->(listed.setIfInBounds i true).getD e.on false=true:=by
    intro j oj hoj hj e he hb
    rw [hS' e.on]
    rw [hS' j] at hj
    by_cases hji:j=i
    .subst hji
     rw [ho] at hoj
     cases hoj
     rw [hpre' e he hb]
     simp
    .have hj':listed.getD j false=true:=by simpa [hji] using hj
     rw [hdown j oj hoj hj' e he hb]
     simp
   have henv':∀ (ρ':Rho) (u:Vly),(∀ A L,ρ A=some L->ρ' A=some L)->VR ρ' (V i) u->EnvR ρ' (eS e0 dst V (λk=>(listed.setIfInBounds i true).getD k false) ops.size) (a.put o.dst u).tmps:=by
    intro ρ' u hgr hv
    have h1:=(henv.mono hgr).put hv o.dst
    exact ⟨by rw [zbn,<- h1.1,zci,zbn],λt=>by rw [hget' t];exact h1.2 t⟩
   have hdef':∀ u,(a.put o.dst u).defers=a0.defers:=λu=>by cases o.dst <;> exact hdef
   obtain ⟨m,hm1,hm2,hm3,hm4⟩:=hseg
   have segBlind:ks.getD i 2 % 3≠2->∀ (ρ':Rho) (w':World),Sim ρ' (H m) w'->∃ m,m<=ops.size/\Sim ρ' (H m) w'/\(∀ k,k < m->ks.getD k 2 % 3=2->(listed.setIfInBounds i true).getD k false=true)/\(m=ops.size\/(ks.getD m 2 % 3=2/\(listed.setIfInBounds i true).getD m false=false)):=by
    intro hk0 ρ' w' hsim
    refine ⟨m,hm1,hsim,λk h1 h2=>by rw [hS' k,hm3 k h1 h2];simp,?_⟩
    rcases hm4 with h1|⟨h1,h2⟩
    .exact .inl h1
    .refine .inr ⟨h1,?_⟩
     have:m≠i:=λe=>by rw [e] at h1;exact hk0 h1
     rw [hS' m,h2]
     simp [this]
   have domMono:∀ (ρ':Rho),(∀ A L,ρ' A=some L->ρ A=some L\/((H i).size<=A/\A < (H (i+1)).size)) ->
    ∀ A L,ρ' A=some L->ρ0 A=some L\/∃ j,j < ops.size/\(listed.setIfInBounds i true).getD j false=true/\(H j).size<=A/\A < (H (j+1)).size:=by
    intro ρ' hρ' A L hA
    rcases hρ' A L hA with h1|h1
    .rcases hdom A L h1 with h2|⟨j,h2,h3,h4⟩
     .exact .inl h2
     .exact .inr ⟨j,h2,by rw [hS' j,h3];simp,h4⟩
    .exact .inr ⟨i,hilt,by rw [hS' i];simp,h1⟩
   have hfreeI:∀ A,(H i).size<=A->A < (H (i+1)).size->ρ A=none:=by
    intro A h1 h2
    cases hA:ρ A with
    |none=>rfl
    |some L =>
     exfalso
     rcases hdom A L hA with h3|⟨j,h3,h4,h5,h6⟩
     .have h7:=(hkeeps 0 i (by omega) (by omega)).size
      have h8:=(hkeeps (i+1) ops.size (by omega) (Nat.le_refl _)).size
      rw [hH0] at h7
      rw [hHn] at h8
      rw [hf0 A (by omega) (by omega)] at h3
      cases h3
     .have hji:j≠i:=λe=>by subst e;rw [hSi] at h4;cases h4
      rcases Nat.lt_or_ge j i with hlt|hge
      .have:=(hkeeps (j+1) i (by omega) (by omega)).size
       omega
      .have:=(hkeeps (i+1) j (by omega) (by omega)).size
       omega
   unfold wpOpIn
   simp only [ho]
   rw [zf1 henv,hwant]
   rcases htr' i o ho with ⟨hwt,h2,hevi,hH1,_,hk⟩|⟨hwt,hv,hH1,_,hk⟩
   .rw [if_pos hwt]
    have hopOk:OpOk ρ o:=(hok o (by simpa using Array.mem_of_getElem? ho)).mono hfr.grow
    have hG:=hG0.mono hfr.grow
    have hevS:∀ hx,zal P T C (eS e0 dst V (λk=>listed.getD k false) ops.size) o hx=zal P T C (E i) o hx:=λhx=>zfx hx hoper
    by_cases hb:zaC T o=true
    .rw [zcw hb] at hk
     have hev':=(zb6 hb hevi).2 (H m)
     have hk':ks.getD i 2 % 3≠2:=by omega
     have hsd:=zaM (h':=H m) hT hC hG hm2 henv hopOk (λA h1 h2=>by omega) (by rw [hevS];exact hev')
     refine hsd.wp (zax hevi) λρ' u w' f1 s1 v1=>?_
     have hsame:∀ A L,ρ' A=some L->ρ A=some L:=by
      intro A L hA
      cases hρ:ρ A with
      |some L1=>have:=f1.grow A L1 hρ;rw [hA] at this;exact this.symm
      |none=>have:=f1.fresh A L hA hρ;omega
     refine ih _ ρ' _ w' hls' hcnt' hdown' (henv' ρ' u f1.grow v1) (hdef' u) (segBlind hk' ρ' w' s1) (domMono ρ' λA L hA=>.inl (hsame A L hA)) ?_
     have k1:=hkeeps m ops.size hm1 (Nat.le_refl _)
     have k2:=hkeeps 0 m (by omega) hm1
     rw [hHn] at k1
     rw [hH0] at k2
     exact hfr.step f1 k1.low k1.size k2.size
    .have kI:=hkeeps i ops.size (by omega) (Nat.le_refl _)
     have kI1:=hkeeps (i+1) ops.size (by omega) (Nat.le_refl _)
     have k0i:=hkeeps 0 i (by omega) (by omega)
     rw [hHn] at kI kI1
     rw [hH0] at k0i
     have hsz1:(H (i+1)).size=h2.size:=by rw [hH1]
     have hlow1:h'.low<=h2.low:=by
      have h3:=kI1.low
      rw [hH1] at h3
      exact Nat.le_trans h3 (Nat.min_le_right _ _)
     have hget1:∀ A,(H (i+1)).get A=h2.get A:=λA=>by rw [hH1];rfl
     by_cases hgrow:(H i).size<=h2.low
     ./- it turns nothing that is there -/
      obtain ⟨hk3,hk0,hkinds⟩:=zcY (T:=T) (e:=E i) hb hgrow
      rw [<- hk] at hk3 hk0 hkinds
      have him:i < m:=by
       rcases hm4 with h3|⟨h3,h4⟩
       .omega
       .rcases Nat.lt_or_ge i m with h5|h5
        .exact h5
        .exfalso
         have hne:m≠i:=λe=>by rw [e] at h3;exact hk3 h3
         obtain ⟨om,hom⟩:=hopAt m (by omega)
         exact hk0 (zdj h3 (hcmpLow m om (by omega) hom h4).2)
      have hturn:∀ k,i<=k->k < m->ks.getD k 2 % 3=2->5<=ks.getD k 2/\((ks.getD i 2 % 3=0/\3<=ks.getD i 2/\ks.getD i 2+2≠ks.getD k 2)\/(ks.getD i 2 % 3=1/\3<=ks.getD i 2/\ks.getD k 2+2<=ks.getD i 2)):=by
       intro k h3 h4 h5
       have hne:k≠i:=λe=>by rw [e] at h5;exact hk3 h5
       have h6:=hm3 k h4 h5
       obtain ⟨ok,hok'⟩:=hopAt k (by omega)
       rcases zhk h5 (hcmpHigh k ok (by omega) hok' h6).2 with h8|h8
       .exact (hk0 h8).elim
       .exact h8
      have hblk:∀ (B j:Nat),i<=j->j<=m->B < (H j).size->(∀ k,i<=k->k < m->ks.getD k 2 % 3=2->5+3*B≠ks.getD k 2)->(H m).get B=(H j).get B:=by
       intro B j h3 h4 h5 h6
       have hx:∀ d,j+d<=m->(H (j+d)).get B=(H j).get B:=by
        intro d
        induction d with
        |zero=>intro _;rfl
        |succ d ihd =>
         intro hd
         obtain ⟨ok,hok'⟩:=hopAt (j+d) (by omega)
         have h7:=ihd (by omega)
         have h8:B < (H (j+d)).size:=Nat.lt_of_lt_of_le h5 (hkeeps j (j+d) (by omega) (by omega)).size
         rw [<- h7]
         by_cases h9:ks.getD (j+d) 2 % 3=2
         .exact (htr' (j+d) ok hok').other h9 (hturn (j+d) (by omega) (by omega) h9).1 B (h6 (j+d) (by omega) (by omega) h9)
         .exact (htr' (j+d) ok hok').same hg h9 B h8
       have h7:=hx (m - j) (by omega)
       rwa [show j+(m - j)=m by omega] at h7
      by_cases hread:∃ t a x,o.op=.load t a/\zaa (E i) a=.pointer (some x)/\ks.getD i 2=3+3*x.block
      .obtain ⟨t,a',x,hop,hx,hkv⟩:=hread
       have hev':zal P T C (E i) o (H m)=some (V i,H m):=by
        unfold zal at hevi ⊢
        simp only [hop,hx,Option.map_eq_some_iff,Prod.mk.injEq] at hevi ⊢
        obtain ⟨r,hr,h3,_⟩:=hevi
        refine ⟨r,?_,h3,trivial⟩
        have hlt:x.block < (H i).size:=zhD hr
        rw [zgo (h:={ H i with low:=(H i).size }) (by rw [Heap.get_low];exact hblk x.block i (Nat.le_refl _) (by omega) hlt (λk h4 h5 h6=>by have:=(hturn k h4 h5 h6).2;omega))]
        exact hr
       have hsd:=zaM (h':=H m) hT hC hG hm2 henv hopOk (λA h1 h2=>by omega) (by rw [hevS];exact hev')
       refine hsd.wp (zax hevi) λρ' u w' f1 s1 v1=>?_
       have hsame:∀ A L,ρ' A=some L->ρ A=some L:=by
        intro A L hA
        cases hρ:ρ A with
        |some L1=>have:=f1.grow A L1 hρ;rw [hA] at this;exact this.symm
        |none=>have:=f1.fresh A L hA hρ;omega
       refine ih _ ρ' _ w' hls' hcnt' hdown' (henv' ρ' u f1.grow v1) (hdef' u) (segBlind hk3 ρ' w' s1) (domMono ρ' λA L hA=>.inl (hsame A L hA)) ?_
       have k1:=hkeeps m ops.size hm1 (Nat.le_refl _)
       have k2:=hkeeps 0 m (by omega) hm1
       rw [hHn] at k1
       rw [hH0] at k2
       exact hfr.step f1 k1.low k1.size k2.size
      have hmid:∃ hx h2x:Heap,hx.size=(H i).size/\Sim ρ hx w/\zal P T C (E i) o hx=some (V i,h2x)/\h2x.size=h2.size/\h'.low<=h2x.low/\(H i).size<=h2x.low/\∀ A,(H i).size<=A->A < h2.size->(H m).get A=h2x.get A:=by
       rcases hkinds with h3|h3|⟨⟨t,n,ps,hop⟩,hkv⟩
       .have hno:∀ k,i<=k->k < m->ks.getD k 2 % 3≠2:=by
         intro k h4 h5 h6
         have:=(hturn k h4 h5 h6).2
         omega
        have hgI:∀ A,A < (H i).size->(H m).get A=(H i).get A:=hsame i m (by omega) hm1 hno
        have hgI1:∀ A,A < (H (i+1)).size->(H m).get A=(H (i+1)).get A:=hsame (i+1) m (by omega) hm1 (λk h3 h4=>hno k (by omega) h4)
        refine ⟨{ H i with low:=(H i).size },h2,rfl,?_,hevi,rfl,hlow1,hgrow,λA h4 h5=>by rw [hgI1 A (by omega),hget1 A]⟩
        refine hm2.swap λA L hA=>?_
        rw [Heap.get_low]
        rcases Nat.lt_or_ge A (H i).size with h3|h3
        .exact .inl (hgI A h3).symm
        .right
         unfold Heap.get
         rw [if_neg (by omega)]
       .exact (hread h3).elim
       .have hszm:=(hkeeps i m (by omega) hm1).size
        have hev2:=hevi
        unfold zal at hev2
        simp only [hop] at hev2
        obtain ⟨b,hb2,hb3⟩:=zdm (h1:=(⟨(H i).size,(H m).tr,(H i).size⟩:Heap)) hev2 rfl
        have hlow2:h2.low=(H i).size:=by rw [hb2];rfl
        have hsz2:h2.size=(H i).size+1:=by rw [hb2];rfl
        refine ⟨⟨(H i).size,(H m).tr,(H i).size⟩,_,rfl,?_,by unfold zal;simp only [hop];exact hb3,by rw [hsz2];rfl,by rw [hlow2] at hlow1;exact hlow1,Nat.le_refl _,λA h4 h5=>?_⟩
        .refine hm2.swap λA L hA=>?_
         unfold Heap.get
         rcases Nat.lt_or_ge A (H i).size with h3|h3
         .left
          rw [if_pos h3,if_pos (by omega)]
         .right
          rw [if_neg (show ¬ A < (H i).size by omega)]
        .have hA:A=(H i).size:=by omega
         subst hA
         rw [hblk _ (i+1) (by omega) (by omega) (by rw [hsz1,hsz2];omega) (λk h6 h7 h8=>by have:=(hturn k h6 h7 h8).2;omega),hget1,hb2,Heap.get_push,Heap.get_push,if_pos rfl,if_pos rfl]
      obtain ⟨hx,h2x,hxs,hsimI,hevx,h2s,hlow2,hgrow2,hN⟩:=hmid
      have hsd:=zaM (h':=h2x) hT hC hG hsimI henv hopOk (λA h3 h4=>hfreeI A (by omega) (by omega)) (by rw [hevS];exact hevx)
      refine hsd.wp (zax hevi) λρ' u w' f1 s1 v1=>?_
      have hnew:∀ A L,ρ' A=some L->ρ A=none->(H i).size<=A/\A < h2.size/\w.heap.size<=L.b:=by
       intro A L hA hn
       obtain ⟨h3,h4,h5⟩:=f1.fresh A L hA hn
       refine ⟨by omega,by omega,?_⟩
       rcases h5 with h5|⟨A0,L0,h6,_,h7,h8⟩
       .exact h5
       .rw [hfreeI A0 (by omega) (by omega)] at h6
        cases h6
      have hwkeep:∀ b,b < w.heap.size->w'.heap[b]? = w.heap[b]? := by
       intro b hb'
       refine f1.keep b hb' λA L hA _=>?_
       rcases Nat.lt_or_ge A (H i).size with h3|h3
       .left;omega
       .right
        rcases Nat.lt_or_ge A h2.size with h4|h4
        .rw [hfreeI A h3 (by omega)] at hA;cases hA
        .omega
      have hsim':Sim ρ' (H m) w':=by
       refine ⟨λA L hA=>?_,λA A' L L' hA hA' hne hbb=>?_⟩
       .cases hρ:ρ A with
        |none =>
         obtain ⟨h3,h4,_⟩:=hnew A L hA hρ
         rw [hN A h3 h4]
         exact s1.blk A L hA
        |some L1 =>
         have e:L1=L:=by have:=f1.grow A L1 hρ;rw [hA] at this;exact (Option.some.inj this).symm
         subst e
         exact (hm2.blk A L1 hρ).keep f1.grow f1.size λ_=>hwkeep L1.b (hm2.lt hρ)
       .cases hρ:ρ A with
        |none =>
         obtain ⟨h3,h4,h5⟩:=hnew A L hA hρ
         cases hρ':ρ A' with
         |none =>
          obtain ⟨h6,h7,h8⟩:=hnew A' L' hA' hρ'
          have hx:=s1.inj A A' L L' hA hA' hne hbb
          unfold live isRo at hx ⊢
          rw [hN A h3 h4,hN A' h6 h7]
          exact hx
         |some L1 =>
          have e:L1=L':=by have:=f1.grow A' L1 hρ';rw [hA'] at this;exact (Option.some.inj this).symm
          subst e
          have:=hm2.lt hρ'
          omega
        |some L1 =>
         have e:L1=L:=by have:=f1.grow A L1 hρ;rw [hA] at this;exact (Option.some.inj this).symm
         subst e
         cases hρ':ρ A' with
         |none =>
          obtain ⟨h6,h7,h8⟩:=hnew A' L' hA' hρ'
          have:=hm2.lt hρ
          omega
         |some L2 =>
          have e:L2=L':=by have:=f1.grow A' L2 hρ';rw [hA'] at this;exact (Option.some.inj this).symm
          subst e
          exact hm2.inj A A' L1 L2 hρ hρ' hne hbb
      refine ih _ ρ' _ w' hls' hcnt' hdown' (henv' ρ' u f1.grow v1) (hdef' u) ?_ (domMono ρ' λA L hA=>?_) (hfr.step f1 hlow2 (by have:=kI1.size;omega) (by rw [hxs];exact k0i.size))
      .refine ⟨m,hm1,hsim',λk h3 h4=>by rw [hS' k,hm3 k h3 h4];simp,?_⟩
       rcases hm4 with h3|⟨h3,h4⟩
       .exact .inl h3
       .refine .inr ⟨h3,?_⟩
        rw [hS' m,h4,show decide (m=i)=false by simp;omega]
        rfl
      .cases hρ:ρ A with
       |none=>right;have:=hnew A L hA hρ;omega
       |some L1=>left;have:=f1.grow A L1 hρ;rw [hA] at this;rw [this]
     .obtain ⟨hk3,_⟩:=zcg (T:=T) (e:=E i) hb hgrow
      rw [<- hk] at hk3
      have hmi:m=i:=by
       rcases Nat.lt_trichotomy m i with h3|h3|h3
       .exfalso
        rcases hm4 with h4|⟨h4,h5⟩
        .omega
        .obtain ⟨om,hom⟩:=hopAt m (by omega)
         have:=zdj h4 (hcmpLow m om h3 hom h5).2
         omega
       .exact h3
       .have:=hm3 i h3 hk3
        rw [hSi] at this
        cases this
      subst hmi
      have hsimI:Sim ρ { H m with low:=(H m).size } w:=hm2.swap λA L _=>.inl rfl
      have hsd:=zaM (h':=h2) hT hC hG hsimI henv hopOk (λA h3 h4=>hfreeI A h3 (by omega)) (by rw [hevS];exact hevi)
      refine hsd.wp (zax hevi) λρ' u w' f1 s1 v1=>?_
      have hnext:∃ m',m+1<=m'/\m'<=ops.size/\(∀ k,m+1<=k->k < m'->ks.getD k 2 % 3≠2)/\(m'=ops.size\/ks.getD m' 2 % 3=2):=by
       have hx:∀ d,d<=ops.size - (m+1)->(∀ k,m+1<=k->k < m+1+d->ks.getD k 2 % 3≠2)\/∃ m',m+1<=m'/\m'<=ops.size/\(∀ k,m+1<=k->k < m'->ks.getD k 2 % 3≠2)/\(m'=ops.size\/ks.getD m' 2 % 3=2):=by
        intro d
        induction d with
        |zero=>intro _;left;intro k h3 h4;omega
        |succ d ihd =>
         intro hd
         rcases ihd (by omega) with h3|h3
         .by_cases h4:ks.getD (m+1+d) 2 % 3=2
          .exact .inr ⟨m+1+d,by omega,by omega,h3,.inr h4⟩
          .left
           intro k h5 h6
           by_cases h7:k=m+1+d
           .rw [h7];exact h4
           .exact h3 k h5 (by omega)
         .exact .inr h3
       rcases hx (ops.size - (m+1)) (Nat.le_refl _) with h3|h3
       .exact ⟨ops.size,by omega,Nat.le_refl _,λk h4 h5=>h3 k h4 (by omega),.inl rfl⟩
       .exact h3
      obtain ⟨m',hm'1,hm'2,hm'3,hm'4⟩:=hnext
      have hgI1:∀ A,A < (H (m+1)).size->(H m').get A=(H (m+1)).get A:=hsame (m+1) m' hm'1 hm'2 hm'3
      have hdomOld:∀ A L,ρ A=some L->A < h2.size\/(ρ0 A=some L/\h'.size<=A):=by
       intro A L hA
       rcases hdom A L hA with h3|⟨j,h3,h4,h5,h6⟩
       .rcases Nat.lt_or_ge A h2.size with h7|h7
        .exact .inl h7
        .rcases Nat.lt_or_ge A h'.size with h8|h8
         .have h9:=k0i.size
          have h10:=(hkeeps m (m+1) (by omega) (by omega)).size
          rw [hf0 A (by omega) h8] at h3
          cases h3
         .exact .inr ⟨h3,h8⟩
       .left
        rcases Nat.lt_or_ge j (m+1) with h7|h7
        .have:=(hkeeps (j+1) (m+1) (by omega) (by omega)).size
         omega
        .exfalso
         obtain ⟨oj,hoj⟩:=hopAt j h3
         have h9:ks.getD j 2=0:=zdj hk3 (hcmpHigh j oj (by omega) hoj h4).2
         have:=((htr' j oj hoj).still h9).1
         omega
      have hsim':Sim ρ' (H m') w':=by
       refine s1.swap λA L hA=>?_
       have hA':A < h2.size\/h'.size<=A:=by
        cases hρ:ρ A with
        |none=>left;exact (f1.fresh A L hA hρ).2.1
        |some L1 =>
         rcases hdomOld A L1 hρ with h3|h3
         .exact .inl h3
         .exact .inr h3.2
       rcases hA' with h3|h3
       .left
        rw [hgI1 A (by omega),hget1 A]
       .right
        have h4:=(hkeeps m' ops.size hm'2 (Nat.le_refl _)).size
        rw [hHn] at h4
        unfold Heap.get
        rw [if_neg (by omega)]
      refine ih _ ρ' _ w' hls' hcnt' hdown' (henv' ρ' u f1.grow v1) (hdef' u) ⟨m',hm'2,hsim',?_,?_⟩ (domMono ρ' λA L hA=>?_) (hfr.step f1 hlow1 (by have:=kI1.size;omega) k0i.size)
      .intro k h3 h4
       rw [hS' k]
       rcases Nat.lt_or_ge k (m+1) with h5|h5
       .by_cases h6:k=m
        .simp [h6]
        .rw [hm3 k (by omega) h4];simp
       .exact (hm'3 k h5 h3 h4).elim
      .rcases hm'4 with h3|h3
       .exact .inl h3
       .rcases Nat.lt_or_ge m' ops.size with h4|h4
        .refine .inr ⟨h3,?_⟩
         rw [hS' m',show decide (m'=m)=false by simp;omega,Bool.false_or]
         cases hb':listed.getD m' false with
         |false=>rfl
         |true =>
          exfalso
          obtain ⟨om,hom⟩:=hopAt m' h4
          have:=zdj hk3 (hcmpHigh m' om (by omega) hom hb').2
          omega
        .exact .inl (by omega)
      .cases hρ:ρ A with
       |none =>
        right
        obtain ⟨h3,h4,_⟩:=f1.fresh A L hA hρ
        have h3':(H m).size<=A:=h3
        omega
       |some L1=>left;have:=f1.grow A L1 hρ;rw [hA] at this;rw [this]
   .rw [if_neg (by rw [hwt];simp)]
    refine ⟨λ_ _=>trivial,?_⟩
    have hu:VR ρ (V i) undef:=by rw [hv];exact .undef ρ
    exact ih _ ρ _ w hls' hcnt' hdown' (henv' ρ undef (λ_ _ h=>h) hu) (hdef' undef) (segBlind (by omega) ρ w hm2) (domMono ρ λA L hA=>.inl hA) hfr
 have hk0:=hkeeps 0 ops.size (by omega) (Nat.le_refl _)
 rw [hH0,hHn] at hk0
 have hfalse:∀ k,(Array.replicate ops.size false).getD k false=false:=by
  intro k
  rcases Nat.lt_or_ge k ops.size with h1|h1 <;> simp [h1]
 have hinit:∀ k,eS e0 dst V (λk=>(Array.replicate ops.size false).getD k false) k=e0:=by
  intro k
  induction k with
  |zero=>rfl
  |succ k ih=>rw [zeE (S:=λk=>(Array.replicate ops.size false).getD k false) (hfalse k),ih]
 refine main ops.size _ ρ0 a0 _ (by simp) (by have:=List.countP_le_length (p:=λk => !(Array.replicate ops.size false).getD k false) (l:=List.range ops.size);simpa using this) ?_ ?_ rfl ?_ ?_ ?_
 .intro j o _ hj
  rw [hfalse j] at hj
  cases hj
 .rw [hinit];exact he0
 ./- the first that may turn something -/
  have hfirst:∃ m,m<=ops.size/\(∀ k,k < m->ks.getD k 2 % 3≠2)/\(m=ops.size\/ks.getD m 2 % 3=2):=by
   have hx:∀ d,d<=ops.size->(∀ k,k < d->ks.getD k 2 % 3≠2)\/∃ m,m<=ops.size/\(∀ k,k < m->ks.getD k 2 % 3≠2)/\(m=ops.size\/ks.getD m 2 % 3=2):=by
    intro d
    induction d with
    |zero=>intro _;left;intro k h4;omega
    |succ d ihd =>
     intro hd
     rcases ihd (by omega) with h3|h3
     .by_cases h4:ks.getD d 2 % 3=2
      .exact .inr ⟨d,by omega,h3,.inr h4⟩
      .left
       intro k h6
       by_cases h7:k=d
       .rw [h7];exact h4
       .exact h3 k (by omega)
     .exact .inr h3
   rcases hx ops.size (Nat.le_refl _) with h3|h3
   .exact ⟨ops.size,Nat.le_refl _,h3,.inl rfl⟩
   .exact h3
  obtain ⟨m,hm1,hm2,hm3⟩:=hfirst
  refine ⟨m,hm1,?_,λk h1 h2=>(hm2 k h1 h2).elim,?_⟩
  .have hs1:Sim ρ0 h0 { w0 with drawn:=w0.drawn+1 }:=hs0.same rfl
   refine hs1.swap λA L hA=>?_
   rcases Nat.lt_or_ge A h0.size with h1|h1
   .left
    have:=hsame 0 m (by omega) hm1 (λk _ h3=>hm2 k h3) A (by rw [hH0];exact h1)
    rw [this,hH0]
   .rcases Nat.lt_or_ge A h'.size with h2|h2
    .rw [hf0 A h1 h2] at hA;cases hA
    .right
     have h4:=(hkeeps m ops.size hm1 (Nat.le_refl _)).size
     rw [hHn] at h4
     unfold Heap.get
     rw [if_neg (by omega)]
  .rcases hm3 with h1|h1
   .exact .inl h1
   .exact .inr ⟨h1,hfalse m⟩
 .intro A L hA;exact .inl hA
 .exact ⟨λ_ _ h=>h,λA L h1 h2=>(by rw [h1] at h2;cases h2),rfl,rfl,rfl,Nat.le_refl _,hk0.size,hk0.low,λ_ _ _=>rfl,hk0.get⟩
end
end Go.Am
namespace Go.Am
open Go.RowKit

abbrev Ov:=FuncId->Option (List Vly->Heap->Option (Vly × Heap))

def setAll:Env->List Tmp->List Vly->Env
 |e,t::ts,v::vs=>setAll (e.set t v) ts vs
 |e,_,_=>e
def zaF (A:Nat) (jump:Option Code) (h:Heap):Option (Vly × Heap) :=
 match h.get A with
 |some (.loop env ps assign body _ _)=>some (.bool jump.isNone,h.set A (.loop env ps assign body (if jump.isNone then .ready else .done) jump))
 |_=>none
def zc7 (E:Code->Env->Heap->Option (Ex × Env × Heap)) (A:Nat) (args:List Vly) (h:Heap):Option (Vly × Heap) :=
 match h.get A with
 |some (.loop env ps assign body _ _) =>
  if args.length=ps.length then
   match E assign (setAll env ps args) h with
   |some (.normal,e1,h1)=>match h1.get A with
    |some (.loop env1 ps1 assign1 body1 .ready pend1) =>
     (match E body e1 (h1.set A (.loop env1 ps1 assign1 body1 .busy pend1)) with
     |some (.normal,_,h2)=>zaF A none h2
     |some (.ret,_,h2)=>zaF A (some .ret) h2
     |some (.exit id,_,h2)=>zaF A (some (.exit id)) h2
     |none=>none)
    |_=>none
   |_=>none
  else none
 |_=>none

def zf7 (d:Oper):Option Tmp:=match d.op with
 | .defer ⟨.value (.tmp t),args,_⟩=>if args.isEmpty && d.guard.isNone && d.dst.isNone then some t else none
 |_=>none
def zce:Code->Option (List Code × Oper × Tmp × Code)
 | .seq (.region id ops false) b=>(match ops.toList with
  | [m,d]=>(match zf7 d with
   |some t=>if m.guard.isNone then some ([],m,t,b) else (zce b).map λ(pre,m,t,r)=>(.region id ops false::pre,m,t,r)
   |none=>(zce b).map λ(pre,m,t,r)=>(.region id ops false::pre,m,t,r))
  |_=>(zce b).map λ(pre,m,t,r)=>(.region id ops false::pre,m,t,r))
 | .seq a b=>(zce b).map λ(pre,m,t,r)=>(a::pre,m,t,r)
 |_=>none
def zaX (E:Code->Env->Heap->Option (Ex × Env × Heap)):List Code->Env->Heap->Option (Env × Heap)
 | [],e,h=>some (e,h)
 |c::cs,e,h=>match E c e h with
  |some (.normal,e',h')=>zaX E cs e' h'
  |_=>none
section
variable (P:Program) (T:Tab)
def zbq (E:Code->Env->Heap->Option (Ex × Env × Heap)) (fn:Func) (g:Vly) (e3:Env) (h3:Heap):Option (Vly × Heap) :=
 match g with
 | .func (.func g) fi ca=>(T.fn g).bind λfg=>fg.body.bind λcg=>if zag cg then
  (match E cg ((fi.toList++ca.toList)++List.replicate (fg.ntmps - (fi.toList++ca.toList).length) undef) h3 with
  |some (.ret,e4,h4)=>(zao T fg e4 h4).bind λ_=>(zao T fn e3 h4).map λv=>(v,h4)
  |some (.normal,e4,h4)=>(zao T fg e4 h4).bind λ_=>(zao T fn e3 h4).map λv=>(v,h4)
  |_=>none)
  else none
 |_=>none
def zcD (E:Code->Env->Heap->Option (Ex × Env × Heap)) (C:Fn->List Vly->Heap->Option (Vly × Heap)) (fn:Func) (c:Code) (e:Env) (h:Heap):Option (Vly × Heap) :=
 (zce c).bind λ(pre,m,t,rest)=>if pre.all zag && zag rest then
  (zaX E pre e h).bind λ(e1,h1)=>(zal P T C e1 m h1).bind λ(v,h2) =>
   match E rest (put e1 m.dst v) h2 with
   |some (.ret,e3,h3)=>zbq T E fn ((put e1 m.dst v).get t) e3 h3
   |some (.normal,e3,h3)=>zbq T E fn ((put e1 m.dst v).get t) e3 h3
   |_=>none
 else none
end

def call (P:Program) (T:Tab) (ov:Ov):Nat->Fn->List Vly->Heap->Option (Vly × Heap)
 |0,_,_,_=>none
 |n+1,.func f,args,h =>
  match ov f with
  |some g=>g args h
  |none =>
   (T.fn f).bind λfn=>fn.body.bind λc =>
   if T.dfr f then zcD P T (zab P T (call P T ov n) (zaj P T (call P T ov n)) none n) (call P T ov n) fn c (args++List.replicate (fn.ntmps - args.length) undef) h else
   match zab P T (call P T ov n) (zaj P T (call P T ov n)) none n c (args++List.replicate (fn.ntmps - args.length) undef) h with
   |some (.ret,e,h')=>(zao T fn e h').map λv=>(v,h')
   |some (.normal,e,h')=>(zao T fn e h').map λv=>(v,h')
   |_=>none
 |n+1,.yield A,args,h=>zc7 (zab P T (call P T ov n) (zaj P T (call P T ov n)) (some A) n) A args h
 |_,_,_,_=>none

def OvS (P:Program) (gs:List Nat) (ov:Ov):Prop :=
 ∀ f g,ov f=some g->∀ args h v h',g args h=some (v,h')->Keeps h h'/\∀ ρ w (cargs:Array Vly),GlobOk gs ρ->Sim ρ h w->Free ρ h h'->VRs ρ args cargs.toList->zhP P ρ h h' w v f cargs

section
variable {P:Program} {T:Tab} {ov:Ov}

theorem zec {C:Fn->List Vly->Heap->Option (Vly × Heap)} (hg:zcz C) {ops:Array Oper} (l:List Oper) (e e':Env) (h h':Heap) (ks:List Nat) (hev:zar P T C ops l e h=some (ks,e',h')):Keeps h h':=by
 induction l generalizing e h ks with
 |nil=>simp only [zar,Option.some.injEq,Prod.mk.injEq] at hev;obtain ⟨_,_,rfl⟩:=hev;exact .refl _
 |cons o l ih =>
  simp only [zar] at hev
  split at hev
  .split at hev
   .rename_i v h2 hr
    simp only [Option.map_eq_some_iff,Prod.exists,Prod.mk.injEq] at hev
    obtain ⟨ks',x1,x2,hr',_,rfl,rfl⟩:=hev
    have hk:=zaz hg hr
    refine Keeps.trans ?_ (ih _ _ _ hr')
    exact ⟨hk.size,Nat.min_le_left _ _,λA h3 h4=>hk.get A h3 (Nat.lt_of_lt_of_le h4 (Nat.min_le_right _ _))⟩
   .cases hev
  .simp only [Option.map_eq_some_iff,Prod.exists,Prod.mk.injEq] at hev
   obtain ⟨ks',x1,x2,hr',_,rfl,rfl⟩:=hev
   exact ih _ _ _ hr'

theorem zaq {C:Fn->List Vly->Heap->Option (Vly × Heap)} (hg:zcz C):zg6 (zaj P T C):=by
 intro ops e h e' h' hev
 unfold zaj at hev
 split at hev
 .rename_i hr
  split at hev
  .cases hev;exact zec hg _ _ _ _ _ _ hr
  .cases hev
 .cases hev

theorem zaQ {A:Nat} {jump:Option Code} {h h':Heap} {v:Vly} (hev:zaF A jump h=some (v,h')):Keeps h h':=by
 unfold zaF at hev
 split at hev
 .rename_i hg;cases hev;exact .set _ (Heap.lt_of_get hg)
 .cases hev
theorem zfU {E:Code->Env->Heap->Option (Ex × Env × Heap)} (hE:∀ c e h x e' h',E c e h=some (x,e',h')->Keeps h h') {A:Nat} {args:List Vly} {h h':Heap} {v:Vly} (hev:zc7 E A args h=some (v,h')):Keeps h h':=by
 unfold zc7 at hev
 split at hev
 .split at hev
  .split at hev
   .rename_i h1 hr1
    split at hev
    .rename_i hg1
     have hk:∀ b,Keeps h (h1.set A b):=λb=>(hE _ _ _ _ _ _ hr1).trans (Keeps.set b (Heap.lt_of_get hg1))
     split at hev
     .rename_i hr2;exact ((hk _).trans (hE _ _ _ _ _ _ hr2)).trans (zaQ hev)
     .rename_i hr2;exact ((hk _).trans (hE _ _ _ _ _ _ hr2)).trans (zaQ hev)
     .rename_i hr2;exact ((hk _).trans (hE _ _ _ _ _ _ hr2)).trans (zaQ hev)
     .cases hev
    .cases hev
   .cases hev
  .cases hev
 .cases hev

theorem zbe {E:Code->Env->Heap->Option (Ex × Env × Heap)} (hE:∀ c e h x e' h',E c e h=some (x,e',h')->Keeps h h'):∀ (pre:List Code) (e e':Env) (h h':Heap),zaX E pre e h=some (e',h')->Keeps h h'
 | [],e,e',h,h',hev=>by simp only [zaX,Option.some.injEq,Prod.mk.injEq] at hev;obtain ⟨_,rfl⟩:=hev;exact .refl _
 |c::cs,e,e',h,h',hev=>by
  simp only [zaX] at hev
  split at hev
  .rename_i hr
   exact (hE _ _ _ _ _ _ hr).trans (zbe hE cs _ _ _ _ hev)
  .cases hev
theorem zaB {E:Code->Env->Heap->Option (Ex × Env × Heap)} (hE:∀ c e h x e' h',E c e h=some (x,e',h')->Keeps h h') {fn:Func} {g v:Vly} {e3:Env} {h3 h':Heap} (hev:zbq T E fn g e3 h3=some (v,h')):Keeps h3 h':=by
 unfold zbq at hev
 split at hev
 .simp only [Option.bind_eq_some_iff] at hev
  obtain ⟨fg,_,cg,_,hev⟩:=hev
  split at hev
  .split at hev
   .rename_i hr
    simp only [Option.bind_eq_some_iff,Option.map_eq_some_iff,Prod.mk.injEq] at hev
    obtain ⟨_,_,_,_,_,rfl⟩:=hev
    exact hE _ _ _ _ _ _ hr
   .rename_i hr
    simp only [Option.bind_eq_some_iff,Option.map_eq_some_iff,Prod.mk.injEq] at hev
    obtain ⟨_,_,_,_,_,rfl⟩:=hev
    exact hE _ _ _ _ _ _ hr
   .cases hev
  .cases hev
 .cases hev
theorem zfq {C:Fn->List Vly->Heap->Option (Vly × Heap)} (hC:zcz C) {E:Code->Env->Heap->Option (Ex × Env × Heap)} (hE:∀ c e h x e' h',E c e h=some (x,e',h')->Keeps h h') {fn:Func} {c:Code} {e:Env} {v:Vly} {h h':Heap} (hev:zcD P T E C fn c e h=some (v,h')):Keeps h h':=by
 unfold zcD at hev
 simp only [Option.bind_eq_some_iff,Prod.exists] at hev
 obtain ⟨pre,m,t,rest,_,hev⟩:=hev
 split at hev
 .simp only [Option.bind_eq_some_iff,Prod.exists] at hev
  obtain ⟨e1,h1,hp,v1,h2,ho,hev⟩:=hev
  split at hev
  .rename_i hr
   exact (((zbe hE _ _ _ _ _ hp).trans (zaz hC ho)).trans (hE _ _ _ _ _ _ hr)).trans (zaB hE hev)
  .rename_i hr
   exact (((zbe hE _ _ _ _ _ hp).trans (zaz hC ho)).trans (hE _ _ _ _ _ _ hr)).trans (zaB hE hev)
  .cases hev
 .cases hev
theorem zez {gs:List Nat} (hov:OvS P gs ov):∀ n,zcz (call P T ov n)
 |0=>by intro f args h v h' hev;simp [call] at hev
 |n+1=>by
  intro f args h v h' hev
  have ih:=zez hov n
  cases f with
  |func f =>
   simp only [call] at hev
   split at hev
   .rename_i g hg
    exact (hov f g hg args h v h' hev).1
   .simp only [Option.bind_eq_some_iff] at hev
    obtain ⟨fn,_,c,_,hev⟩:=hev
    split at hev
    .exact zfq ih (λc e h x e' h' hr=>zap ih (zaq ih) _ _ _ _ _ _ _ _ hr) hev
    split at hev
    .rename_i hr
     simp only [Option.map_eq_some_iff,Prod.mk.injEq] at hev
     obtain ⟨_,_,_,rfl⟩:=hev
     exact zap ih (zaq ih) _ _ _ _ _ _ _ _ hr
    .rename_i hr
     simp only [Option.map_eq_some_iff,Prod.mk.injEq] at hev
     obtain ⟨_,_,_,rfl⟩:=hev
     exact zap ih (zaq ih) _ _ _ _ _ _ _ _ hr
    .cases hev
  |yield A =>
   simp only [call] at hev
   exact zfU (λc e h x e' h' hr=>zap ih (zaq ih) _ _ _ _ _ _ _ _ hr) hev
  |_=>simp [call] at hev

theorem EnvR.enter {ρ:Rho} {args:List Vly} {cargs:Array Vly} (hv:VRs ρ args cargs.toList) (n:Nat):EnvR ρ (args++List.replicate (n - args.length) undef) (cargs++Array.replicate (n - cargs.size) undef):=by
 have hl:args.length=cargs.size:=by simpa using hv.1
 refine ⟨by simp [hl],λi=>?_⟩
 rw [Env.get_eq]
 rcases Nat.lt_or_ge i args.length with h1|h1
 .rw [List.getElem?_append_left h1]
  have hx:args[i]? = some args[i]:=List.getElem?_eq_getElem h1
  obtain ⟨y,hy,hxy⟩:=hv.get hx
  have h2:i < cargs.size:=by omega
  have e1:(cargs++Array.replicate (n - cargs.size) undef).getD i undef=y:=by
   have h3:cargs[i]? = some y:=by simpa using hy
   simp [Array.getElem?_append_left h2,h3]
  rw [e1,hx]
  exact hxy
 .rw [List.getElem?_append_right h1]
  have e1:(cargs++Array.replicate (n - cargs.size) undef).getD i undef=undef:=by
   have h3:cargs.size<=i:=by omega
   simp only [Array.getD_eq_getD_getElem?,Array.getElem?_append_right h3]
   by_cases h4:i - cargs.size < n - cargs.size
   .simp [h4]
   .simp [h4]
  rw [e1]
  by_cases h4:i - args.length < n - args.length
  .simp [h4];exact .undef ρ
  .simp [h4];exact .undef ρ

theorem EnvR.set {ρ:Rho} {e:Env} {tmps:Array Vly} (he:EnvR ρ e tmps) {v u:Vly} (hv:VR ρ v u) (d:Nat):EnvR ρ (Env.set e d v) (tmps.setIfInBounds d u):=by
 have:=EnvR.put (a:={ tmps:=tmps,defers:=[] }) he hv (some d)
 exact this

theorem EnvR.setAll {ρ:Rho}:∀ (ps:List Tmp) (args:List Vly) (cargs:List Vly) (e:Env) (tmps:Array Vly),EnvR ρ e tmps->VRs ρ args cargs->EnvR ρ (Am.setAll e ps args) ((ps.zip cargs).foldl (λtmps (t,a)=>tmps.setIfInBounds t a) tmps)
 | [],args,cargs,e,tmps,he,_=>by cases args <;> exact he
 |t::ps,[],cargs,e,tmps,he,hv=>by rw [hv.of_nil];exact he
 |t::ps,v::args,cargs,e,tmps,he,hv=>by
  obtain ⟨u,m,rfl,h1,h2⟩:=hv.of_cons
  exact EnvR.setAll ps args m _ _ (he.set h1 t) h2

theorem zc5 {ρ:Rho} {h:Heap} {fn:Func} {tmps:Array Vly} {R:Ending->World->Prop} {n0:Nat}:∀ (rs:List Nat) (w:World),rs.Nodup->(∀ r∈rs,n0<=r/\w.heap[r]? = some (.deferred (some []))/\∀ A L,ρ A=some L->L.b≠r)->Sim ρ h w ->
 (∀ w',Sim ρ h w'->w'.os=w.os->w'.tape=w.tape->w'.output=w.output->w'.heap.size=w.heap.size->(∀ b,(b < n0\/∃ A L,ρ A=some L/\L.b=b)->w'.heap[b]? = w.heap[b]?)->∃ v,(results fn tmps).run P w'=.ok v w'/\R (.returned v) w') ->
 LeavesInM Fence.wide 0 P fn tmps R (rs.map λr=>{ target:=.collected r,args:=#[] }) .returning w
 | [],w,_,_,hs,hR=>hR w hs rfl rfl rfl rfl (λ_ _=>rfl)
 |r::rs,w,hnd,hall,hs,hR=>by
  obtain ⟨a1,a2,a3⟩:=hall r (by simp)
  have hlt:r < w.heap.size:=(Array.getElem?_eq_some_iff.1 a2).1
  refine ⟨by simp,.inl ⟨r,_,rfl,run_takeDeferred a2,?_⟩⟩
  obtain ⟨hn1,hn2⟩:=List.nodup_cons.1 hnd
  have hsz:(w.putObj r (.deferred none)).heap.size=w.heap.size:=by rw [zbS];simp
  refine zc5 (n0:=n0) rs _ hn2 (λq hq=>?_) ⟨λA L hA=>(hs.blk A L hA).keep (λ_ _ h=>h) (by rw [hsz];exact Nat.le_refl _) (λ_=>zbz (a3 A L hA)),hs.inj⟩ λw' hs' h1 h2 h3 h4 h5=>?_
  .obtain ⟨b1,b2,b3⟩:=hall q (by simp [hq])
   exact ⟨b1,(zbz (λ(e:q=r)=>hn1 (e ▸ hq))).trans b2,b3⟩
  .refine hR w' hs' h1 h2 h3 (h4.trans hsz) λb hb=>(h5 b hb).trans (zbz λe=>?_)
   subst e
   rcases hb with hb|⟨A,L,hA,hb⟩
   .omega
   .exact a3 A L hA hb

inductive DSplit (m:Oper) (t:Tmp) (rest:Code):List Code->Code->Prop where
 |here (id:Nat) (ops:Array Oper) (d:Oper) (args:Array Operand) (ats:Array TypeId):ops.toList=[m,d]->d.op=.defer ⟨.value (.tmp t),args,ats⟩->args.isEmpty=true->m.guard=none->d.guard=none->d.dst=none->DSplit m t rest [] (.seq (.region id ops false) rest)
 |step (a b:Code) (pre:List Code):DSplit m t rest pre b->DSplit m t rest (a::pre) (.seq a b)
theorem zfs {d:Oper} {t:Tmp} (h:zf7 d=some t):∃ args ats,d.op=.defer ⟨.value (.tmp t),args,ats⟩/\args.isEmpty=true/\d.guard=none/\d.dst=none:=by
 unfold zf7 at h
 split at h
 .rename_i t' args ats hop
  split at h
  .rename_i hc
   cases h
   simp only [Bool.and_eq_true,Option.isNone_iff_eq_none] at hc
   exact ⟨args,ats,hop,hc.1.1,hc.1.2,hc.2⟩
  .cases h
 .cases h
theorem zgt:∀ (c:Code) (pre:List Code) (m:Oper) (t:Tmp) (rest:Code),zce c=some (pre,m,t,rest)->DSplit m t rest pre c:=by
 intro c
 induction c with
 |seq a b _ ihb =>
  intro pre m t rest h
  have hmap:∀ (a:Code),((zce b).map λ(pre,m,t,r)=>(a::pre,m,t,r))=some (pre,m,t,rest)->DSplit m t rest pre (.seq a b):=by
   intro a hm
   simp only [Option.map_eq_some_iff,Prod.exists,Prod.mk.injEq] at hm
   obtain ⟨pre',m',t',r',hs,rfl,rfl,rfl,rfl⟩:=hm
   exact .step a b pre' (ihb _ _ _ _ hs)
  unfold zce at h
  split at h
  .rename_i id ops b' heq
   cases heq
   split at h
   .rename_i m' d hops
    split at h
    .rename_i t' hd
     split at h
     .rename_i hg
      simp only [Option.some.injEq,Prod.mk.injEq] at h
      obtain ⟨rfl,rfl,rfl,rfl⟩:=h
      obtain ⟨args,ats,h1,h2,h3,h4⟩:=zfs hd
      exact .here id ops d args ats hops h1 h2 (by simpa using hg) h3 h4
     .exact hmap _ h
    .exact hmap _ h
   .exact hmap _ h
  .rename_i a' b' _ heq
   cases heq
   exact hmap _ h
  .cases h
 |_=>intro pre m t rest h;simp [zce] at h

theorem zfr (hT:T.Fits P) {C:Fn->List Vly->Heap->Option (Vly × Heap)} {gs:List Nat} (hC:CS P gs C) (hg:zcz C) {E:Code->Env->Heap->Option (Ex × Env × Heap)}
 (hE:∀ (n0:Nat) (B:List Deferred) (c:Code) (e:Env) (h:Heap) (x:Ex) (e':Env) (h':Heap) (ρ:Rho) (a:Act) (w:World) (Q:Exit->Act->World->Prop),E c e h=some (x,e',h')->CodeOk ρ c->(true=true->zag c=true)->GlobOk gs ρ->Sim ρ h w->Free ρ h h'->EnvR ρ e a.tmps->Marks n0 B true ρ w a.defers->RdR ρ none none->n0<=w.heap.size ->
  (∀ ρ' a' w',Fr ρ ρ' h h' w w'->Sim ρ' h' w'->EnvR ρ' e' a'.tmps->Marks n0 B true ρ' w' a'.defers->Q x.to a' w')->c.wpIn (WR none) 0 P Q a w)
 (hEk:∀ c e h x e' h',E c e h=some (x,e',h')->Keeps h h')
 {fn:Func} {c:Code} {e:Env} {h h':Heap} {v:Vly} {ρ:Rho} {w:World} {tmps:Array Vly} (hgs:∀ g fg cg,T.fn g=some fg->fg.body=some cg->za8 gs cg=true) (hok:CodeOk ρ c) (hG:GlobOk gs ρ) (hs:Sim ρ h w) (hf:Free ρ h h') (he:EnvR ρ e tmps)
 (hev:zcD P T E C fn c e h=some (v,h')) :
 c.wpIn Fence.wide 0 P (bodyPostM Fence.wide 0 P fn λed w'=>∃ ρ' u,ed=.returned u/\Fr ρ ρ' h h' w w'/\Sim ρ' h' w'/\VR ρ' v u) { tmps,defers:=[] } w:=by
 have key:∀ (pre:List Code) (m:Oper) (t:Tmp) (rest:Code) (c:Code),DSplit m t rest pre c->∀ (e:Env) (h1:Heap) (ρ1:Rho) (w1:World) (a:Act),pre.all zag=true->zag rest=true->CodeOk ρ1 c->GlobOk gs ρ1->Sim ρ1 h1 w1->Free ρ1 h1 h'->EnvR ρ1 e a.tmps->a.defers=[]->Fr ρ ρ1 h h1 w w1 ->
  ((zaX E pre e h1).bind λ(e1,h1)=>(zal P T C e1 m h1).bind λ(v,h2) =>
    match E rest (put e1 m.dst v) h2 with
    |some (.ret,e3,h3)=>zbq T E fn ((put e1 m.dst v).get t) e3 h3
    |some (.normal,e3,h3)=>zbq T E fn ((put e1 m.dst v).get t) e3 h3
    |_=>none)=some (v,h') ->
  c.wpIn Fence.wide 0 P (bodyPostM Fence.wide 0 P fn λed w'=>∃ ρ' u,ed=.returned u/\Fr ρ ρ' h h' w w'/\Sim ρ' h' w'/\VR ρ' v u) a w1:=by
  intro pre m t rest c hsp
  induction hsp with
  |step a0 b0 pre0 _ ih =>
   intro e h1 ρ1 w1 a hpre hrest hok hG hs hf he hd hfr hev
   simp only [List.all_cons,Bool.and_eq_true] at hpre
   simp only [zaX,Option.bind_eq_some_iff,Prod.exists] at hev
   obtain ⟨e2,h2,hp,hev⟩:=hev
   split at hp
   .rename_i e3 h3 hr
    have hk3:Keeps h3 h':=by
     obtain ⟨v2,h4,ho,hev⟩:=hev
     have k1:=zbe hEk _ _ _ _ _ hp
     have k2:=zaz hg ho
     split at hev
     .rename_i hr2;exact ((k1.trans k2).trans (hEk _ _ _ _ _ _ hr2)).trans (zaB hEk hev)
     .rename_i hr2;exact ((k1.trans k2).trans (hEk _ _ _ _ _ _ hr2)).trans (zaB hEk hev)
     .cases hev
    refine wpIn_seq ?_
    refine hE w1.heap.size [] a0 e h1 .normal e3 h3 ρ1 a w1 _ hr hok.1 (λ_=>hpre.1) hG hs (hf.left hk3.size) he (by rw [hd];exact Marks.nil) trivial (Nat.le_refl _) λρ2 a2 w2 f2 s2 r2 d2=>?_
    obtain ⟨rs,m1,_,m2,_⟩:=d2
    rw [m2 rfl] at m1
    refine ih e3 h3 ρ2 w2 a2 hpre.2 hrest (hok.2.mono f2.grow) (hG.mono f2.grow) s2 (hf.right f2) r2 (by simpa using m1) (hfr.trans f2) ?_
    simp only [Option.bind_eq_some_iff,Prod.exists]
    exact ⟨e2,h2,hp,hev⟩
   .cases hp
  |here id ops d args ats hops hop hargs hmg hdg hdd =>
   intro e h1 ρ1 w1 a _ hrest hok hG hs hf he hd hfr hev
   simp only [zaX,Option.bind_eq_some_iff,Prod.exists,Option.some.injEq,Prod.mk.injEq] at hev
   obtain ⟨e1,h1',⟨rfl,rfl⟩,v1,h2,ho,hev⟩:=hev
   have hk2:Keeps h2 h':=by
    split at hev
    .rename_i hr2;exact (hEk _ _ _ _ _ _ hr2).trans (zaB hEk hev)
    .rename_i hr2;exact (hEk _ _ _ _ _ _ hr2).trans (zaB hEk hev)
    .cases hev
   refine wpIn_seq (wpIn_region_list ?_)
   rw [hops]
   have hokm:OpOk ρ1 m:=hok.1 m (by rw [hops];simp)
   have hwm:Region.wanted m (yielded ops a.tmps)=true:=by simp [Region.wanted,hmg]
   rw [wpListIn,if_pos hwm]
   have hsd:=zaM hT hC hG hs he hokm (hf.left hk2.size) ho
   refine hsd.wp (rl:=none) (zax ho) λρ2 u w2 f2 s2 v2=>?_
   have he2:EnvR ρ2 (put e m.dst v1) (a.put m.dst u).tmps:=(he.mono f2.grow).put v2 m.dst
   have hd2:(a.put m.dst u).defers=[]:=by cases m.dst <;> exact hd
   have hwd:Region.wanted d (yielded ops (a.put m.dst u).tmps)=true:=by simp [Region.wanted,hdg]
   rw [wpListIn,if_pos hwd]
   have hgv:=he2.2 t
   have hleave:∃ x e3 h3,(x=Ex.ret\/x=.normal)/\E rest (put e m.dst v1) h2=some (x,e3,h3)/\zbq T E fn ((put e m.dst v1).get t) e3 h3=some (v,h'):=by
    split at hev
    .rename_i e3 h3 hr2;exact ⟨_,e3,h3,.inl rfl,hr2,hev⟩
    .rename_i e3 h3 hr2;exact ⟨_,e3,h3,.inr rfl,hr2,hev⟩
    .cases hev
   obtain ⟨x,e3,h3,hx,hr2,hlv⟩:=hleave
   unfold zbq at hlv
   split at hlv
   .rename_i g fi ca hgt
    rw [hgt] at hgv
    generalize hag:(a.put m.dst u).tmps.getD t undef=ag at hgv
    cases hgv with
    |func _ q1 q2 q3 q4 =>
     rename_i fi' ca'
     have hv1:VRs ρ2 fi.toList fi'.toList:=⟨by simpa using q1,λi x y hx hy=>q3 i x y (by simpa using hx) (by simpa using hy)⟩
     have hv2:VRs ρ2 ca.toList ca'.toList:=⟨by simpa using q2,λi x y hx hy=>q4 i x y (by simpa using hx) (by simpa using hy)⟩
     simp only [Option.bind_eq_some_iff] at hlv
     obtain ⟨fg,hfg,cg,hcg,hlv⟩:=hlv
     split at hlv
     .rename_i hnr
      have hae:(a.put m.dst u).eval (.tmp t)=.func (.func g) fi' ca':=hag
      have hres:(execOp (a.put m.dst u).eval d).run P w2=.ok (.defer { target:=.fn (.func g) ca',args:=fi' }) w2:=by
       have hargs':args=#[]:=by simpa using hargs
       simp [execOp,hop,resolve,hae,Deferred.ofValue,hargs']
      refine ⟨λfq hq=>trivial,?_⟩
      rw [show Oper.semAt Fence.wide.round (a.put m.dst u).eval d=execOp (a.put m.dst u).eval d from rfl,hres]
      simp only [Oper.uponIn,wpListIn,hdd,hd2]
      have hk3:Keeps h3 h':=zaB hEk (show zbq T E fn (.func (.func g) fi ca) e3 h3=some (v,h') by unfold zbq;simp only [hfg,Option.bind_some,hcg,hnr,if_true];exact hlv)
      refine hE w2.heap.size [{ target:=.fn (.func g) ca',args:=fi' }] rest _ _ _ _ _ ρ2 _ w2 _ hr2 (hok.2.mono f2.grow) (λ_=>hrest) (hG.mono f2.grow) s2 ((hf.right f2).left hk3.size) he2 Marks.nil trivial (Nat.le_refl _) λρ3 a3 w3 f3 s3 r3 d3=>?_
      obtain ⟨rs,m1,_,m2,_⟩:=d3
      rw [m2 rfl] at m1
      have m1':a3.defers=[{ target:=.fn (.func g) ca',args:=fi' }]:=by simpa using m1
      have hl:LeavesInM Fence.wide 0 P fn a3.tmps (λed w'=>∃ ρ' u,ed=.returned u/\Fr ρ ρ' h h' w w'/\Sim ρ' h' w'/\VR ρ' v u) a3.defers .returning w3:=by
       rw [m1']
       obtain ⟨hPg,hname,_⟩:=hT.fn g fg hfg
       have hname':¬ fg.name="runtime.NumGoroutine":=by simpa using hname
       refine ⟨by simp,.inr ⟨(λhh=>by cases hh),_,_,g,fi'++ca',rfl,?_,λ_ _=>trivial,?_⟩⟩
       .show (callFunc g (fi'++ca')).run P w3=_
        simp [callFunc,hPg,hname',hcg]
       .have hvs:VRs ρ3 (fi.toList++ca.toList) (fi'++ca').toList:=by
         have:=(hv1.append hv2).mono f3.grow
         simpa using this
        have heg:=EnvR.enter hvs fg.ntmps
        have hrung:∃ y e4 h4 vg,(y=Ex.ret\/y=.normal)/\E cg ((fi.toList++ca.toList)++List.replicate (fg.ntmps - (fi.toList++ca.toList).length) undef) h3=some (y,e4,h4)/\zao T fg e4 h4=some vg/\zao T fn e3 h4=some v/\h4=h':=by
         split at hlv
         .rename_i e4 h4 hr4
          simp only [Option.bind_eq_some_iff,Option.map_eq_some_iff,Prod.mk.injEq] at hlv
          obtain ⟨vg,hvg,v',hv',rfl,rfl⟩:=hlv
          exact ⟨_,e4,h4,vg,.inl rfl,hr4,hvg,hv',rfl⟩
         .rename_i e4 h4 hr4
          simp only [Option.bind_eq_some_iff,Option.map_eq_some_iff,Prod.mk.injEq] at hlv
          obtain ⟨vg,hvg,v',hv',rfl,rfl⟩:=hlv
          exact ⟨_,e4,h4,vg,.inr rfl,hr4,hvg,hv',rfl⟩
         .cases hlv
        obtain ⟨y,e4,h4,vg,hy,hr4,hvg,hvf,rfl⟩:=hrung
        refine (callsDIn_of_wp (R:=λed w'=>∃ u,ed=.returned u/\∃ vr,(results fn a3.tmps).run P w'=.ok vr w'/\∃ ρ' u',Ending.returned vr=.returned u'/\Fr ρ ρ' h h4 w w'/\Sim ρ' h4 w'/\VR ρ' v u') hPg hcg trivial ?_).mono ?_
        .refine hE w3.heap.size [] cg _ _ _ _ _ ρ3 _ w3 _ hr4 (.of (hG.mono (f2.trans f3).grow) (hgs g fg cg hfg hcg)) (λ_=>hnr) (hG.mono (f2.trans f3).grow) s3 ((hf.right f2).right f3) heg Marks.nil trivial (Nat.le_refl _) λρ4 a4 w4 f4 s4 r4 d4=>?_
         obtain ⟨rs4,n1,_,n2,_⟩:=d4
         rw [n2 rfl] at n1
         have n1':a4.defers=[]:=by simpa using n1
         obtain ⟨ug,hug,_⟩:=zbC hT s4 r4 hvg
         obtain ⟨uf,huf,hvuf⟩:=zbC hT s4 (r3.mono f4.grow) hvf
         have hbp:a4.defers=[]/\∃ vv,(results fg a4.tmps).run P w4=.ok vv w4/\∃ u,Ending.returned vv=.returned u/\∃ vr,(results fn a3.tmps).run P w4=.ok vr w4/\∃ ρ' u',Ending.returned vr=.returned u'/\Fr ρ ρ' h h4 w w4/\Sim ρ' h4 w4/\VR ρ' v u' :=
          ⟨n1',ug,hug,ug,rfl,uf,huf,ρ4,uf,rfl,((hfr.trans f2).trans f3).trans f4,s4,hvuf⟩
         rcases hy with rfl|rfl
         .exact hbp
         .exact hbp
        .rintro ed u' w' ⟨rfl,uu,rfl,vr,hvr,hR⟩
         exact ⟨vr,hvr,hR⟩
      rcases hx with rfl|rfl
      .exact hl
      .exact hl
     .cases hlv
   .cases hlv
 unfold zcD at hev
 simp only [Option.bind_eq_some_iff,Prod.exists] at hev
 obtain ⟨pre,m,t,rest,hsp,hev⟩:=hev
 split at hev
 .rename_i hnr
  simp only [Bool.and_eq_true] at hnr
  exact key pre m t rest c (zgt _ _ _ _ _ hsp) e h ρ w _ hnr.1 hnr.2 hok hG hs hf he rfl (Fr.refl _ _ _) hev
 .cases hev

theorem zeA (hmix:P.follows .mixedOrders=true) (hT:T.Fits P) (hov:OvS P T.gs ov):∀ n,CS P T.gs (call P T ov n)
 |0=>by
  refine ⟨?_,?_⟩
  .intro f args h v h' hev;simp [call] at hev
  .intro f args h v h' hev;simp [call] at hev
 |n+1=>by
  have ihs:=zeA hmix hT hov n
  have ihk:=zez (T:=T) hov n
  have hcode:=λ(rd rl:Option Nat) (n0:Nat)=>zcn hT ihs ihk (zco hmix hT ihs ihk) (zaq ihk) rd rl n0 [] false n
  have hkeep:=λ(rd:Option Nat)=>zap (P:=P) (T:=T) ihk (zaq (P:=P) (T:=T) ihk) rd n
  refine ⟨?_,?_⟩
  .intro f args h v h' hev ρ w cargs hG hs hf hv
   simp only [call] at hev
   split at hev
   .rename_i g hg
    exact (hov f g hg args h v h' hev).2 ρ w cargs hG hs hf hv
   .simp only [Option.bind_eq_some_iff] at hev
    obtain ⟨fn,hfn,c,hc,hev⟩:=hev
    obtain ⟨hP,hname,hok⟩:=hT.fn f fn hfn
    right
    refine ⟨?_,?_⟩
    .have hname':¬ fn.name="runtime.NumGoroutine":=by simpa using hname
     simp [callFunc,hP,hname',hc]
    .refine callsIn_wide.1 (callsIn_of_wp_marks (n:=0) hP hc trivial ?_)
     have he:=EnvR.enter hv fn.ntmps
     have go:∀ (x:Ex) (e:Env) (h2:Heap),x=.ret\/x=.normal->zab P T (call P T ov n) (zaj P T (call P T ov n)) none n c (args++List.replicate (fn.ntmps - args.length) undef) h=some (x,e,h2) ->
      (zao T fn e h2).map (λv=>(v,h2))=some (v,h')->c.wpIn Fence.wide 0 P (bodyPostM Fence.wide 0 P fn λed w'=>∃ ρ' u,ed=.returned u/\Fr ρ ρ' h h' w w'/\Sim ρ' h' w'/\VR ρ' v u) { tmps:=cargs++Array.replicate (fn.ntmps - cargs.size) undef,defers:=[] } w:=by
      intro x e h2 hx hr hres
      simp only [Option.map_eq_some_iff,Prod.mk.injEq] at hres
      obtain ⟨v',hres,rfl,rfl⟩:=hres
      refine hcode none none w.heap.size c _ _ _ _ _ ρ _ w _ hr (.of hG (hok c hc)) (λq=>by cases q) hG hs hf he Marks.nil trivial (Nat.le_refl _) λρ' a' w' f1 s1 e1 d1=>?_
      obtain ⟨rs,m1,m2,_,m3⟩:=d1
      rw [List.append_nil] at m1
      have hl:LeavesInM Fence.wide 0 P fn a'.tmps (λed w'=>∃ ρ' u,ed=.returned u/\Fr ρ ρ' h h2 w w'/\Sim ρ' h2 w'/\VR ρ' v' u) a'.defers .returning w':=by
       rw [m1]
       refine zc5 rs w' m2 m3 s1 λw2 s2 q1 q2 q3 q4 q5=>?_
       obtain ⟨u,hu,hvu⟩:=zbC hT s2 e1 hres
       refine ⟨u,hu,ρ',u,rfl,⟨f1.grow,f1.fresh,q1.trans f1.os,q2.trans f1.tape,q3.trans f1.output,by rw [q4];exact f1.size,f1.hsize,f1.low,λb hb hall=>?_,f1.akeep⟩,s2,hvu⟩
       exact (q5 b (.inl hb)).trans (f1.keep b hb hall)
      rcases hx with rfl|rfl
      .exact hl
      .exact hl
     split at hev
     .exact zfr hT ihs ihk (λn0 B c e h x e' h' ρ a w Q=>zcn hT ihs ihk (zco hmix hT ihs ihk) (zaq ihk) none none n0 B true n c e h x e' h' ρ a w Q) (λc e h x e' h' hr=>hkeep none c e h x e' h' hr) (λg fg cg h1 h2=>(hT.fn g fg h1).2.2 cg h2) (.of hG (hok c hc)) hG hs hf he hev
     split at hev
     .rename_i e h2 hr;exact go .ret e h2 (.inl rfl) hr hev
     .rename_i e h2 hr;exact go .normal e h2 (.inr rfl) hr hev
     .cases hev
  .intro A args h v h' hev ρ w cargs L hA hG hs hf hv
   simp only [call] at hev
   unfold zc7 at hev
   split at hev
   .rename_i env ps assign body st pend hg
    split at hev
    .rename_i hlen
     split at hev
     .rename_i e1 h1 hr1
      split at hev
      .rename_i env1 ps1 assign1 body1 pend1 hg1
       obtain ⟨lo,l1,l2,l3,l4,l5,l6,l7,l8,l9,_⟩:=zbH hs hA hg
       have hcl:args.length=cargs.size:=by simpa using hv.1
       have hps:lo.params.size=ps.length:=by rw [<- l4];simp
       refine ⟨lo.fn,(lo.params.zip cargs).foldl (λtmps (t,a)=>tmps.setIfInBounds t a) lo.tmps,lo.assign,lo.body,?_,?_⟩
       .simp only [Instr.yield,Sem.run_bind,run_getLoop l1,Result.andThen_ok]
        rw [if_neg (by omega)]
        simp
       .have key:∀ (x:Ex) (e2:Env) (h2:Heap) (jump:Option Code),zab P T (call P T ov n) (zaj P T (call P T ov n)) (some A) n body e1 (h1.set A (.loop env1 ps1 assign1 body1 .busy pend1))=some (x,e2,h2) ->
         (jump=match x with | .normal=>none | .ret=>some .ret | .exit id=>some (.exit id))->zaF A jump h2=some (v,h')->RoundIn Fence.wide 0 P L.b lo.fn ((lo.params.zip cargs).foldl (λtmps (t,a)=>tmps.setIfInBounds t a) lo.tmps) lo.assign lo.body w λed w'=>∃ ρ' u,ed=.returned u/\Fr ρ ρ' h h' w w'/\Sim ρ' h' w'/\VR ρ' v u:=by
         intro x e2 h2 jump hr2 hjump hend
         have k1:=hkeep (some A) _ _ _ _ _ _ hr1
         have k2:=hkeep (some A) _ _ _ _ _ _ hr2
         have k3:=zaQ hend
         have s1:=k2.size
         have s2:=k3.size
         rw [Heap.size_set] at s1
         refine roundIn_of_wpIn (F:=Fence.wide) trivial ?_
         have he0:EnvR ρ (setAll env ps args) ((lo.params.zip cargs).foldl (λtmps (t,a)=>tmps.setIfInBounds t a) lo.tmps):=by
          have:=EnvR.setAll ps args cargs.toList env lo.tmps l7 hv
          rw [<- Array.foldl_toList,Array.toList_zip,l4]
          exact this
         rw [l5]
         refine hcode (some A) (some L.b) w.heap.size assign _ _ _ _ _ ρ _ w _ hr1 l8 (λq=>by cases q) hG hs (hf.left (by omega)) he0 Marks.nil ⟨L,hA,rfl⟩ (Nat.le_refl _) λρ1 a1 w1 f1 sm1 en1 d1=>?_
         have hA1:=f1.grow A L hA
         obtain ⟨lo1,p1,p2,p3,p4,p5,p6,p7,p8,p9,p10⟩:=zbH sm1 hA1 hg1
         obtain ⟨f2,sm2⟩:=p10 .busy pend1
         have hlo1:({ lo1 with state:=LoopState.busy,pending:=pend1 }:Loop)={ lo1 with state:=LoopState.busy }:=by subst p3;rfl
         rw [hlo1] at f2 sm2
         refine ⟨_,run_beginRound p1 p2,?_⟩
         rw [l6]
         refine hcode (some A) (some L.b) w.heap.size body _ _ _ _ _ ρ1 a1 _ _ hr2 (l9.mono f1.grow) (λq=>by cases q) (hG.mono f1.grow) sm2 ?_ en1 (d1.step f2) ⟨L,hA1,rfl⟩ (Nat.le_trans f1.size f2.size) λρ3 a3 w3 f3 sm3 en3 d3=>?_
         .have hfr:Free ρ1 h1 h2:=((hf.left (by omega)).right f1)
          exact hfr
         .have hA3:=f3.grow A L hA1
          unfold zaF at hend
          split at hend
          .rename_i env3 ps3 assign3 body3 st3 pend3 hg3
           cases hend
           obtain ⟨lo3,z1,z2,z3,z4,z5,z6,z7,z8,z9,z10⟩:=zbH sm3 hA3 hg3
           obtain ⟨f4,sm4⟩:=z10 (if jump.isNone then .ready else .done) jump
           have hfin:∃ ρ' u,Ending.returned (.bool jump.isNone)=.returned u/\Fr ρ ρ' h (h2.set A (.loop env3 ps3 assign3 body3 (if jump.isNone then .ready else .done) jump)) w (w3.putObj L.b (.loop { lo3 with state:=if jump.isNone then .ready else .done,pending:=jump })) /\
            Sim ρ' (h2.set A (.loop env3 ps3 assign3 body3 (if jump.isNone then .ready else .done) jump)) (w3.putObj L.b (.loop { lo3 with state:=if jump.isNone then .ready else .done,pending:=jump }))/\VR ρ' (.bool jump.isNone) u :=
            ⟨ρ3,_,rfl,((f1.trans f2).trans f3).trans f4,sm4,.bool _⟩
           have hrun:=run_endRound (P:=P) jump z1
           cases x with
           |normal=>subst hjump;exact ⟨_,_,hrun,hfin⟩
           |ret=>subst hjump;exact ⟨_,_,hrun,hfin⟩
           |exit id=>subst hjump;exact ⟨_,_,hrun,hfin⟩
          .cases hend
        split at hev
        .rename_i e2 h2 hr2;exact key _ _ _ _ hr2 rfl hev
        .rename_i e2 h2 hr2;exact key _ _ _ _ hr2 rfl hev
        .rename_i e2 h2 hr2;exact key _ _ _ _ hr2 rfl hev
        .cases hev
      .cases hev
     .cases hev
    .cases hev
   .cases hev

theorem Fr.below {ρ ρ':Rho} {h h':Heap} {w w':World} (f:Fr ρ ρ' h h' w w') (hlow:∀ A L,ρ A=some L->A < h'.low):Below w.heap.size w w' :=
 ⟨f.os,f.tape,f.output,f.size,λk hk=>f.keep k hk λA L hA _=>.inl (hlow A L hA)⟩

theorem zgy (hmix:P.follows .mixedOrders=true) (hT:T.Fits P) (hov:OvS P T.gs ov) {n:Nat} {f:FuncId} {b:Bool} {h h':Heap} (hf:ov f=none) (hrun:call P T ov n (.func f) [] h=some (.bool b,h')) (w:World) (ρ:Rho)
 (hG:GlobOk T.gs ρ) (hs:Sim ρ h w) (hfree:∀ A,h.size<=A->ρ A=none) (hlow:∀ A L,ρ A=some L->A < h'.low) :
 Calls P f #[] w λe w'=>e=.returned (.bool b)/\Below w.heap.size w w':=by
 have hcs:=(zeA hmix hT hov n).fn f [] h (.bool b) h' hrun ρ w #[] hG hs (λA h1 _=>hfree A h1) (.nil _)
 rcases hcs with ⟨ρ',u,w',h1,_⟩|⟨_,h1⟩
 .exfalso
  cases n with
  |zero=>simp [call] at hrun
  |succ n =>
   simp only [call,hf,Option.bind_eq_some_iff] at hrun
   obtain ⟨fn,hfn,c,hc,_⟩:=hrun
   obtain ⟨hP,hname,_⟩:=hT.fn f fn hfn
   have hname':¬ fn.name="runtime.NumGoroutine":=by simpa using hname
   simp [callFunc,hP,hname',hc] at h1
 .refine h1.mono ?_
  rintro e w' ⟨ρ',u,rfl,f1,s1,hv⟩
  refine ⟨?_,f1.below hlow⟩
  rw [hv.eq_plain rfl]
end
end Go.Am
