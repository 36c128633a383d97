/- A region that draws its order: the plain machine goes by the text; what it comes to does not hang on the order. No condition. -/
import Derived.Test.YtiapegieocgmfaaGreatDoorG0
import Derived.Orders
import Derived.OrdersIn
set_option linter.unusedSimpArgs false
namespace Go.Am
open Go.RowKit

def zmQ (T:bI):List TypeId->Bool
 |t::_=>(match T.desc t with|some (.map _ _)=>false|_=>true)
 | []=>true
def tH (T:bI) (o:Oper):Bool :=
 match o.op with
 | .move _ | .assign _ | .pick _ _ _ | .build _ _ | .nilCheck _ | .binOp _ _ _ _ _ | .makeFunc _ _ _ | .slice _ _ _ _ _ | .fieldAddr _ _ _ | .field _ _ _ | .indexAddr _ _ _ | .extract _ _ | .unOp _ _ _ | .index _ _ _ | .makeInterface _ _ | .typeAssert _ _ _ _=>true
 | .convert s d _ => !uE T s && !uE T d
 | .call c=>match c.callee with
  | .builtin .len=>zmQ T c.argTypes.toList
  | .builtin .min | .builtin .max | .builtin .cap=>true
  |_=>false
 |_=>false

section
variable (P:Program) (T:bI) (C:Fn->List ab->Heap->Option (ab × Heap))

def mu (o:Oper) (e:Env) (h h':Heap):Nat :=
 if tH T o then 0 else if h.size<=h'.low then (match o.op with
  | .load _ a=>(match bt e a with
   | .pointer (some x)=>3+3*x.block
   |_=>1)
  | .buildSlice _ _ _=>4+3*h.size
  |_=>1)
 else (match o.op with
  | .store _ a _=>(match bt e a with
   | .pointer (some x)=>5+3*x.block
   |_=>2)
  | .call c=>(match c.callee,c.args.toList with
   | .builtin .append,a::_=>(match bt e a with
    | .slice (some x) _ _=>5+3*x.block
    |_=>2)
   |_,_=>2)
  |_=>2)
def sj (ops:Array Oper):List Oper->Env->Heap->Option (List Nat × Env × Heap)
 | [],e,h=>some ([],e,h)
 |o::r,e,h =>
  if nR ops o e then
   match gL P T C e o { h with low:=h.size } with
   |some (v,h')=>(sj ops r (put e o.dst v) { h' with low:=min h.low h'.low }).map λ(ks,x)=>(mu T o e h h'::ks,x)
   |none=>none
  else (sj ops r (put e o.dst undef) h).map λ(ks,x)=>(0::ks,x)

def TH (acc:List Nat) (o:Oper):Nat:=o.after.toList.foldl (λs e=>if Region.binds .any e then s ||| 2 ^ e.on ||| acc.getD e.on 0 else s) 0
def pA:List Oper->List Nat->List Nat
 | [],acc=>acc
 |o::r,acc=>pA r (acc++[TH acc o])
def uv (a b:Nat):Bool:=a == 0 || b == 0 || (a % 3 != 2 && b % 3 != 2) || (Nat.ble 5 a && a % 3 == 2 && Nat.ble 3 b && b % 3 == 0 && b+2 != a) || (Nat.ble 5 b && b % 3 == 2 && Nat.ble 3 a && ((a % 3 == 0 && a+2 != b) || (a % 3 == 1 && Nat.ble (b+2) a)))
def QE (ops:Array Oper) (ks ms:List Nat) (j:Nat):Bool :=
 match ops[j]? with
 |some oj=>oj.after.toList.all (λe => !Region.binds .any e || decide (e.on < j)) &&
  (List.range j).all λi=>(ms.getD j 0).testBit i || (match ops[i]? with
   |some oi=>oi.apart ops oj && uv (ks.getD i 2) (ks.getD j 2)
   |none=>true)
 |none=>true
def T2 (ops:Array Oper) (ks ms:List Nat):Bool:=(List.range ops.size).all (QE ops ks ms)

def qF (ops:Array Oper) (e:Env) (h:Heap):Option (Env × Heap) :=
 match sj P T C ops ops.toList e h with
 |some (ks,e',h')=>if T2 ops ks (pA ops.toList []) then some (e',h') else none
 |none=>none
end

section
variable {P:Program} {T:bI} {C:Fn->List ab->Heap->Option (ab × Heap)}

theorem ztM {t:TypeId} {x:ab} {ts:List TypeId} (hb:zmQ T (t::ts)=true) (h h2:Heap):bo T t x h=bo T t x h2:=by
 simp only [zmQ] at hb
 unfold bo
 split at hb
 .cases hb
 .rename_i aQ
  split
  all_goals first|rfl|(rename_i hd;exact (aQ _ _ hd).elim)

theorem ze9 {e:Env} {o:Oper} {h h':Heap} {v:ab} (hb:tH T o=true) (aj:gL P T C e o h=some (v,h')):h'=h/\∀ h2,gL P T C e o h2=some (v,h2):=by
 have cQ:∀ {r:Option ab},(r.map λx=>(x,h))=some (v,h')->h'=h/\∀ h2:Heap,(r.map λx=>(x,h2))=some (v,h2):=by
  intro r hr
  simp only [cA,cV] at hr
  obtain ⟨_,rfl,rfl,rfl⟩:=hr
  exact ⟨rfl,λ_=>rfl⟩
 have eb:i7 P e o h=some (v,h')->h'=h/\∀ h2,i7 P e o h2=some (v,h2):=by
  intro hp
  unfold i7 at hp ⊢
  split at hp
  .rename_i h1
   split at hp
   .rename_i h2
    split at hp
    .rename_i h3
     cases hp
     exact ⟨rfl,λ_=>by simp [h1,h3]⟩
    .cases hp
   .cases hp
  .cases hp
 obtain ⟨dst,op,ty,pos,after,guard⟩:=o
 cases op <;> simp only [tH,gM] at hb <;> simp only [gL] at aj ⊢
 case move x=>cases aj;exact ⟨rfl,λ_=>rfl⟩
 case assign x=>cases aj;exact ⟨rfl,λ_=>rfl⟩
 case pick c a b =>
  split at aj
  .cases aj;exact ⟨rfl,λ_=>rfl⟩
  .cases aj
 case build=>exact cQ aj
 case nilCheck x =>
  split at aj
  .cases aj;exact ⟨rfl,λ_=>rfl⟩
  .cases aj;exact ⟨rfl,λ_=>rfl⟩
  .cases aj;exact ⟨rfl,λ_=>rfl⟩
  .cases aj
 case makeInterface=>exact cQ aj
 case typeAssert=>exact cQ aj
 case binOp=>exact cQ aj
 case makeFunc fn f c =>
  split at aj
  .cases aj;exact ⟨rfl,λ_=>rfl⟩
  .cases aj
 case slice=>exact cQ aj
 case fieldAddr=>exact cQ aj
 case field=>exact cQ aj
 case indexAddr=>exact cQ aj
 case extract t i =>
  split at aj
  .exact cQ aj
  .cases aj
 case unOp=>exact eb aj
 case convert s d x =>
  simp only [ep,CO] at hb
  rw [hb.1,hb.2] at aj ⊢
  exact eb aj
 case index=>exact eb aj
 case call c =>
  obtain ⟨callee,args,ats⟩:=c
  cases callee with
  |value f=>simp at hb
  |invoke r m=>simp at hb
  |builtin b =>
   cases b <;> simp at hb <;> simp only at aj ⊢
   case len =>
    split at aj
    .rename_i vE lJ
     rw [vE] at hb
     obtain ⟨e1,e2⟩:=cQ aj
     exact ⟨e1,λh2=>by rw [ztM hb h2 h];exact e2 h2⟩
    .cases aj
   case min=>exact eb aj
   case max=>exact eb aj
   case cap =>
    split at aj
    .exact cQ aj
    .cases aj

theorem zox {e e':Env} {o:Oper} (h:Heap) (he:∀ x∈o.op.operands.toList,bt e x=bt e' x):gL P T C e o h=gL P T C e' o h:=by
 have eb:(∀ cs b,o.op≠.select cs b)->i7 P e o h=i7 P e' o h:=by
  intro Yr
  unfold i7
  have h1:execOp (bt e) o=execOp (bt e') o:=execOp_congr o Yr (λx hx=>he x (by simpa using hx))
  have h2:(o.op.operands.toList.all λx=>plain (bt e x))=(o.op.operands.toList.all λx=>plain (bt e' x)):=by
   rw [Bool.eq_iff_iff,iT,iT]
   exact ⟨λhh x hx=>by rw [<- he x hx];exact hh x hx,λhh x hx=>by rw [he x hx];exact hh x hx⟩
  rw [h1,h2]
 have pk:∀ (xs:List Operand),(∀ x∈xs,x∈o.op.operands.toList)->xs.map (bt e)=xs.map (bt e'):=λxs hx=>QQ λx lJ=>he x (hx x lJ)
 unfold gL
 dsimp only
 split
 .rename_i x aV;rw [he x (by simp [aV,Op.operands])]
 .rename_i x aV;rw [he x (by simp [aV,Op.operands])]
 .rename_i c a b aV;rw [he c (by simp [aV,Op.operands]),he a (by simp [aV,Op.operands]),he b (by simp [aV,Op.operands])]
 .rfl
 .rename_i t x aV;rw [he x (by simp [aV,Op.operands])]
 .rename_i t ps aV
  rw [QQ (g:=λ(p:Nat × Operand)=>(p.1,bt e' p.2)) λp hp=>by rw [he p.2 (by simp [aV,Op.operands];exact ⟨p.1,by simpa using hp⟩)]]
 .rename_i t n ps aV
  rw [QQ (g:=λ(p:Nat × Operand)=>(p.1,bt e' p.2)) λp hp=>by rw [he p.2 (by simp [aV,Op.operands];exact ⟨p.1,by simpa using hp⟩)]]
 .rename_i t x aV;rw [he x (by simp [aV,Op.operands])]
 .rename_i t a x aV;rw [he a (by simp [aV,Op.operands]),he x (by simp [aV,Op.operands])]
 .rename_i x aV;rw [he x (by simp [aV,Op.operands])]
 .rename_i op t x y yt aV;rw [he x (by simp [aV,Op.operands]),he y (by simp [aV,Op.operands])]
 .rename_i fn f c aV
  have h1:=pk f.toList (λx hx=>by simp [aV,Op.operands];left;simpa using hx)
  have h2:=pk c.toList (λx hx=>by simp [aV,Op.operands];right;simpa using hx)
  have h3:f.map (bt e)=f.map (bt e'):=by apply Array.ext';simpa using h1
  have h4:c.map (bt e)=c.map (bt e'):=by apply Array.ext';simpa using h2
  rw [h3,h4]
 .rename_i t l c aV;rw [he l (by simp [aV,Op.operands]),he c (by simp [aV,Op.operands])]
 .rename_i t x l hi m aV
  have Gs:∀ (y:Option Operand),(∀ z,y=some z->z∈o.op.operands.toList)->y.map (bt e)=y.map (bt e'):=by
   intro y hy
   cases y with
   |none=>rfl
   |some z=>simp [he z (hy z rfl)]
  rw [he x (by simp [aV,Op.operands]),Gs l (λz hz=>by subst hz;simp [aV,Op.operands]),Gs hi (λz hz=>by subst hz;simp [aV,Op.operands]),Gs m (λz hz=>by subst hz;simp [aV,Op.operands])]
 .rename_i s x f aV;rw [he x (by simp [aV,Op.operands])]
 .rename_i t x f aV;rw [he x (by simp [aV,Op.operands])]
 .rename_i t x i aV;rw [he x (by simp [aV,Op.operands]),he i (by simp [aV,Op.operands])]
 .rename_i t i aV;rw [he t (by simp [aV,Op.operands])]
 .rename_i aV;exact eb (by simp [aV])
 .rename_i s d x aV;rw [he x (by simp [aV,Op.operands]),eb (by simp [aV])]
 .rename_i aV;exact eb (by simp [aV])
 .rename_i c aV
  obtain ⟨callee,args,ats⟩:=c
  dsimp only
  have ha:=pk args.toList (λx hx=>by simp [aV,Op.operands,Call.operands];right;simpa using hx)
  have b8:∀ x∈args.toList,bt e x=bt e' x:=λx hx=>he x (by simp [aV,Op.operands,Call.operands];right;simpa using hx)
  split
  .split
   .rename_i h1 h2;rw [b8 _ (by rw [h2];simp),b8 _ (by rw [h2];simp)]
   .rfl
  .split
   .rename_i h1 h2;rw [b8 _ (by rw [h2];simp),b8 _ (by rw [h2];simp)]
   .rfl
  .split
   .rename_i h1 h2;rw [b8 _ (by rw [h2];simp)]
   .rfl
  .split
   .rename_i h1 h2;rw [b8 _ (by rw [h2];simp)]
   .rfl
  .exact eb (by simp [aV])
  .exact eb (by simp [aV])
  .split
   .rename_i h1 h2;rw [b8 _ (by rw [h2];simp),b8 _ (by rw [h2];simp)]
   .rfl
  .split
   .rename_i h1 h2;rw [b8 _ (by rw [h2];simp)]
   .rfl
  .rename_i rv name
   rw [he rv (by simp [aV,Op.operands,Call.operands]),ha]
  .rename_i f
   rw [he f (by simp [aV,Op.operands,Call.operands]),ha]
  .rfl
 .rename_i t r aV
  cases r with
  |none=>rfl
  |some x=>simp only;rw [he x (by simp [aV,Op.operands])]
 .rename_i t x k ok aV;rw [he x (by simp [aV,Op.operands]),he k (by simp [aV,Op.operands])]
 .rename_i t m k x aV;rw [he m (by simp [aV,Op.operands]),he k (by simp [aV,Op.operands]),he x (by simp [aV,Op.operands])]
 .rename_i t m k x aV;rw [he m (by simp [aV,Op.operands]),he k (by simp [aV,Op.operands]),he x (by simp [aV,Op.operands])]
 .rename_i t m k aV;rw [he m (by simp [aV,Op.operands]),he k (by simp [aV,Op.operands])]
 .rename_i t m k x aV;rw [he m (by simp [aV,Op.operands]),he k (by simp [aV,Op.operands]),he x (by simp [aV,Op.operands])]
 .rename_i t x aV;rw [he x (by simp [aV,Op.operands])]
 .rename_i x xt t ok aV;rw [he x (by simp [aV,Op.operands])]
 .rfl
end
end Go.Am
namespace Go.Am
open Go.RowKit

section
variable {P:Program} {T:bI} {C:Fn->List ab->Heap->Option (ab × Heap)}

def fC (P:Program) (T:bI) (C:Fn->List ab->Heap->Option (ab × Heap)) (ops:Array Oper) (o:Oper) (e e1:Env) (h h1:Heap) (v:ab) (k:Nat):Prop :=
 (nR ops o e=true/\∃ h2,gL P T C e o { h with low:=h.size }=some (v,h2)/\h1={ h2 with low:=min h.low h2.low }/\e1=put e o.dst v/\k=mu T o e h h2) \/
 (nR ops o e=false/\v=undef/\h1=h/\e1=put e o.dst undef/\k=0)

theorem zsY {ops:Array Oper}:∀ (l:List Oper) (e e':Env) (h h':Heap) (ks:List Nat),sj P T C ops l e h=some (ks,e',h') ->
 ∃ (E:Nat->Env) (H:Nat->Heap) (V:Nat->ab),E 0=e/\H 0=h/\E l.length=e'/\H l.length=h'/\ks.length=l.length /\
   ∀ i o,l[i]? = some o->fC P T C ops o (E i) (E (i+1)) (H i) (H (i+1)) (V i) (ks.getD i 2)
 | [],e,e',h,h',ks,aj=>by
  simp only [sj,dO,cV] at aj
  obtain ⟨rfl,rfl,rfl⟩:=aj
  exact ⟨λ_=>e,λ_=>h,λ_=>undef,rfl,rfl,rfl,rfl,rfl,λi o hi=>by simp at hi⟩
 |o::l,e,e',h,h',ks,aj=>by
  have glue:∀ (e1:Env) (h1:Heap) (v:ab) (k:Nat) (eU:List Nat),sj P T C ops l e1 h1=some (eU,e',h')->fC P T C ops o e e1 h h1 v k->ks=k::eU ->
   ∃ (E:Nat->Env) (H:Nat->Heap) (V:Nat->ab),E 0=e/\H 0=h/\E (o::l).length=e'/\H (o::l).length=h'/\ks.length=(o::l).length /\
     ∀ i o',(o::l)[i]? = some o'->fC P T C ops o' (E i) (E (i+1)) (H i) (H (i+1)) (V i) (ks.getD i 2):=by
   intro e1 h1 v k eU hr fj hk
   obtain ⟨E,H,V,bC,zT,zU,RT,h5',h6'⟩:=zsY l e1 e' h1 h' eU hr
   subst hk
   refine ⟨λn=>match n with|0=>e|n+1=>E n,λn=>match n with|0=>h|n+1=>H n,λn=>match n with|0=>v|n+1=>V n,rfl,rfl,zU,RT,by simp [h5'],?_⟩
   intro i o' hi
   cases i with
   |zero =>
    simp only [AK,dO] at hi
    subst hi
    simp only [bC,zT,List.getD_cons_zero]
    exact fj
   |succ i =>
    have:=h6' i o' (by simpa using hi)
    simpa using this
  simp only [sj] at aj
  split at aj
  .rename_i hw
   split at aj
   .rename_i v h2 hr
    simp only [cA,Prod.exists,cV] at aj
    obtain ⟨eU,x1,x2,cw,hk,rfl,rfl⟩:=aj
    exact glue _ _ v _ eU cw (.inl ⟨hw,h2,hr,rfl,rfl,rfl⟩) hk.symm
   .cases aj
  .rename_i hw
   simp only [cA,Prod.exists,cV] at aj
   obtain ⟨eU,x1,x2,cw,hk,rfl,rfl⟩:=aj
   exact glue _ _ undef _ eU cw (.inr ⟨by simpa using hw,rfl,rfl,rfl,rfl⟩) hk.symm

theorem zfj:∀ (l:List Oper) (acc:List Nat) (k:Nat),k < acc.length->(pA l acc).getD k 0=acc.getD k 0
 | [],acc,k,_=>rfl
 |o::l,acc,k,hk=>by
  rw [pA,zfj l _ k (by simp;omega)]
  simp [nc hk]
theorem zmU:∀ (l:List Oper) (acc:List Nat) (t:Nat) (o:Oper),l[t]? = some o->∃ sG:List Nat,sG.length=acc.length+t/\(pA l acc).getD (acc.length+t) 0=TH sG o/\∀ k,k < acc.length+t->sG.getD k 0=(pA l acc).getD k 0
 | [],acc,t,o,h=>by simp at h
 |o'::l,acc,0,o,h=>by
  simp only [AK,dO] at h
  subst h
  refine ⟨acc,rfl,?_,λk hk=>?_⟩
  .rw [pA,iU,zfj l _ acc.length (by simp)]
   simp
  .rw [pA,zfj l _ k (by simp;omega)]
   simp [nc (show k < acc.length by omega)]
 |o'::l,acc,t+1,o,h=>by
  obtain ⟨sG,h1,h2,h3⟩:=zmU l (acc++[TH acc o']) t o (by simpa using h)
  simp only [dy,zK] at h1 h2 h3
  rw [show acc.length+(t+1)=acc.length+1+t by omega]
  exact ⟨sG,h1,h2,h3⟩

theorem zhR {acc:List Nat} {o:Oper} {i:Nat} (h:(TH acc o).testBit i=true):∃ e∈o.after.toList,Region.binds .any e=true/\(i=e.on\/(acc.getD e.on 0).testBit i=true):=by
 have key:∀ (l:List Edge) (s:Nat),(l.foldl (λs e=>if Region.binds .any e then s ||| 2 ^ e.on ||| acc.getD e.on 0 else s) s).testBit i=true ->
  s.testBit i=true\/∃ e∈l,Region.binds .any e=true/\(i=e.on\/(acc.getD e.on 0).testBit i=true):=by
  intro l
  induction l with
  |nil=>intro s hs;exact .inl hs
  |cons e l ih =>
   intro s hs
   rw [uM] at hs
   rcases ih _ hs with h1|⟨e',h1,h2,h3⟩
   .split at h1
    .rename_i hb
     rw [Nat.testBit_or,Nat.testBit_or,sB,sB] at h1
     rcases h1 with (h1|h1)|h1
     .exact .inl h1
     .rw [Nat.testBit_two_pow] at h1
      exact .inr ⟨e,by simp,hb,.inl (of_decide_eq_true h1).symm⟩
     .exact .inr ⟨e,by simp,hb,.inr h1⟩
    .exact .inl h1
   .exact .inr ⟨e',by simp [h1],h2,h3⟩
 rcases key _ 0 h with h1|h1
 .simp at h1
 .exact h1

theorem zjl {ops:Array Oper} {S:Nat->Prop} (nB:∀ (j:Nat) (o:Oper),ops[j]? = some o->∀ e∈o.after.toList,Region.binds .any e=true->e.on < j)
 (k8:∀ (j:Nat) (o:Oper),ops[j]? = some o->S j->∀ e∈o.after.toList,Region.binds .any e=true->S e.on) :
 ∀ (n j:Nat) (o:Oper) (i:Nat),j<=n->ops[j]? = some o->(∀ e∈o.after.toList,Region.binds .any e=true->S e.on)->((pA ops.toList []).getD j 0).testBit i=true->S i:=by
 intro n
 induction n with
 |zero =>
  intro j o i hj ho hd hb
  obtain ⟨sG,h1,h2,h3⟩:=zmU ops.toList [] j o (by simpa using ho)
  simp only [dN,jo] at h1 h2 h3
  rw [h2] at hb
  obtain ⟨e,he,IC,_⟩:=zhR hb
  have:=nB j o ho e he IC
  omega
 |succ n ih =>
  intro j o i hj ho hd hb
  obtain ⟨sG,h1,h2,h3⟩:=zmU ops.toList [] j o (by simpa using ho)
  simp only [dN,jo] at h1 h2 h3
  rw [h2] at hb
  obtain ⟨e,he,IC,hi⟩:=zhR hb
  have aT:=nB j o ho e he IC
  have hS:=hd e he IC
  rcases hi with rfl|hi
  .exact hS
  .rw [h3 e.on aT] at hi
   have Sf:j < ops.size:=(mQ.1 ho).1
   have hoe:ops[e.on]? = some (ops[e.on]'(by omega)):=xl _
   exact ih e.on _ i (by omega) hoe (k8 e.on _ hoe hS) hi

def eS (e0:Env) (dst:Nat->Option Tmp) (V:Nat->ab) (S:Nat->Bool):Nat->Env
 |0=>e0
 |k+1=>if S k then put (eS e0 dst V S k) (dst k) (V k) else eS e0 dst V S k

theorem Ra {e0:Env} {dst:Nat->Option Tmp} {V:Nat->ab} {S:Nat->Bool} {k:Nat} (h:S k=true):eS e0 dst V S (k+1)=put (eS e0 dst V S k) (dst k) (V k):=by simp only [eS,h,if_true]
theorem JL {e0:Env} {dst:Nat->Option Tmp} {V:Nat->ab} {S:Nat->Bool} {k:Nat} (h:S k=false):eS e0 dst V S (k+1)=eS e0 dst V S k:=by simp only [eS,h,gM,if_false]
theorem Th (e:Env) (d:Option Tmp) (v:ab):(put e d v).length=e.length:=by cases d <;> simp [put,Env.length_set]
theorem Hp (e0:Env) (dst:Nat->Option Tmp) (V:Nat->ab) (S:Nat->Bool):∀ k,(eS e0 dst V S k).length=e0.length
 |0=>rfl
 |k+1=>by
  simp only [eS]
  split
  .rw [Th,Hp e0 dst V S k]
  .exact Hp e0 dst V S k
theorem Je {e:Env} {d:Option Tmp} {v:ab} {t:Nat} (h:d≠some t):(put e d v).get t=e.get t:=by
 cases d with
 |none=>rfl
 |some d=>simp only [put,Env.aJ];rw [az (λhh=>h (by rw [hh.1]))]
theorem zeL {e e':Env} (hl:e.length=e'.length) {d:Option Tmp} {v:ab} {t:Nat} (h:e.get t=e'.get t):(put e d v).get t=(put e' d v).get t:=by
 cases d with
 |none=>exact h
 |some d=>simp only [put,Env.aJ,hl,h]

end
end Go.Am
namespace Go.Am
open Go.RowKit
variable {k:Nat} {v:ab} {h h' h1:Heap} {e e1:Env} {o:Oper} {ops:Array Oper} {t:TypeId}

theorem zoj {p p':Nat->Bool}:∀ (l:List Nat),(∀ k∈l,p' k=true->p k=true)->(∃ x∈l,p x=true/\p' x=false)->l.countP p' < l.countP p
 | [],_,h=>by obtain ⟨x,hx,_⟩:=h;simp at hx
 |a::l,hle,h=>by
  have aet:l.countP p'<=l.countP p:=List.countP_mono_left λk hk=>hle k (by simp [hk])
  obtain ⟨x,hx,hp,pZ⟩:=h
  rw [List.countP_cons,List.countP_cons]
  rcases dh.1 hx with rfl|hx
  .simp only [hp,pZ,if_true,gM,if_false]
   omega
  .have ih:=zoj l (λk hk=>hle k (by simp [hk])) ⟨x,hx,hp,pZ⟩
   by_cases ha:p' a=true
   .rw [aE ha,aE (hle a (by simp) ha)];omega
   .rw [az ha];split <;> omega

section
variable {P:Program} {T:bI} {C:Fn->List ab->Heap->Option (ab × Heap)}

theorem Heap.jL (h:Heap) (x A:Nat):Heap.get { h with low:=x } A=h.get A:=rfl

theorem fC.keeps (hg:uK C) (hs:fC P T C ops o e e1 h h1 v k):bx h h1:=by
 rcases hs with ⟨_,h2,aj,rfl,_,_⟩|⟨_,_,rfl,_,_⟩
 .have hk:=Hm hg aj
  exact ⟨hk.size,xA _ _,λA h3 h4=>hk.get A h3 (dB h4 (Et _ _))⟩
 .exact .refl _
theorem zjf (hb:tH T o=true):mu T o e h h'=0:=by unfold mu;rw [aE hb]
theorem zhu (hb:¬ tH T o=true) (hl:h.size<=h'.low):mu T o e h h' % 3≠2/\mu T o e h h'≠0 /\
 (mu T o e h h'=1\/(∃ t a x,o.op=.load t a/\bt e a=.pointer (some x)/\mu T o e h h'=3+3*x.block)\/((∃ t n ps,o.op=.buildSlice t n ps)/\mu T o e h h'=4+3*h.size)):=by
 unfold mu
 rw [az hb,aE hl]
 split
 .rename_i t a aV
  split
  .rename_i x hx
   exact ⟨by omega,by omega,.inr (.inl ⟨t,a,x,aV,hx,rfl⟩)⟩
  .exact ⟨by omega,by omega,.inl rfl⟩
 .rename_i t n ps aV
  exact ⟨by omega,by omega,.inr (.inr ⟨⟨t,n,ps,aV⟩,rfl⟩)⟩
 .exact ⟨by omega,by omega,.inl rfl⟩
theorem Te (hb:¬ tH T o=true) (hl:¬ h.size<=h'.low):mu T o e h h' % 3=2 /\
 (mu T o e h h'=2\/(∃ t a y x,o.op=.store t a y/\bt e a=.pointer (some x)/\mu T o e h h'=5+3*x.block) \/
  ∃ c a as x n m,o.op=.call c/\c.callee=.builtin .append/\c.args.toList=a::as/\bt e a=.slice (some x) n m/\mu T o e h h'=5+3*x.block):=by
 unfold mu
 rw [az hb,az hl]
 split
 .rename_i t a y aV
  split
  .rename_i x hx
   exact ⟨by omega,.inr (.inl ⟨t,a,y,x,aV,hx,rfl⟩)⟩
  .exact ⟨rfl,.inl rfl⟩
 .rename_i c aV
  split
  .rename_i a as hc ha
   split
   .rename_i x n m hx
    exact ⟨by omega,.inr (.inr ⟨c,a,as,x,n,m,aV,hc,ha,hx,rfl⟩)⟩
   .exact ⟨rfl,.inl rfl⟩
  .exact ⟨rfl,.inl rfl⟩
 .exact ⟨rfl,.inl rfl⟩
theorem zml {x:ab} {p:Addr} {n c:Nat} (ha:gC T t (.slice (some p) n c) x h=some (v,h')):∀ B,B < h.size->B≠p.block->h'.get B=h.get B:=by
 intro B hB aQ
 obtain ⟨A,o,sp⟩:=p
 replace aQ:B≠A:=aQ
 unfold gC at ha
 split at ha
 .simp only [cH,Prod.exists] at ha
  obtain ⟨k,uR,z,_,m,news,_,ha⟩:=ha
  split at ha
  .cases ha;rfl
  .split at ha
   .cases ha
   .split at ha
    .split at ha
     .rename_i A' o' heq
      cases heq
      split at ha
      .simp only [cA,cV] at ha
       obtain ⟨h1,hw,_,rfl⟩:=ha
       unfold ki at hw
       split at hw
       .rename_i cs e' hg
        split at hw
        .cases hw
         rw [Heap.aJ _ _ _ _ (Heap.bw hg),az aQ]
        .cases hw
       .cases hw
      .cases ha
     .cases ha
    .simp only [cH] at ha
     obtain ⟨eO,_,ha⟩:=ha
     split at ha
     .cases ha
      rw [Heap.bg,az (by omega)]
     .split at ha
      .rename_i A' o' sp' heq
       cases heq
       split at ha
       .rename_i hg
        split at ha
        .cases ha
         rw [Heap.bg,az (by rw [Heap.size_set];omega),Heap.aJ _ _ _ _ (Heap.bw hg),az aQ]
        .cases ha
       .cases ha
      .cases ha
 .cases ha
theorem Jq {a b:Nat} (ha:a % 3=2) (hk:uv a b=true):b=0\/(5<=a/\b % 3=0/\3<=b/\b+2≠a):=by
 unfold uv at hk
 simp only [sB,ep,beq_iff_eq,bne_iff_ne,Nat.ble_eq] at hk
 omega
theorem zwn {a b:Nat} (hb:b % 3=2) (hk:uv a b=true):a=0\/(5<=b/\((a % 3=0/\3<=a/\a+2≠b)\/(a % 3=1/\3<=a/\b+2<=a))):=by
 unfold uv at hk
 simp only [sB,ep,beq_iff_eq,bne_iff_ne,Nat.ble_eq] at hk
 omega
theorem fC.same (hg:uK C) (hs:fC P T C ops o e e1 h h1 v k) (gz:k % 3≠2):∀ A,A < h.size->h1.get A=h.get A:=by
 rcases hs with ⟨_,h2,aj,rfl,_,hk⟩|⟨_,_,rfl,_,_⟩
 .intro A hA
  by_cases hb:tH T o=true
  .rw [Heap.jL,(ze9 hb aj).1];rfl
  .by_cases hl:h.size<=h2.low
   .exact (Hm hg aj).get A hA (by omega)
   .exact (gz (by rw [hk];exact (Te hb hl).1)).elim
 .intro A _;rfl
theorem fC.still (hs:fC P T C ops o e e1 h h1 v k) (wM:k % 3=0):h1.size=h.size/\∀ A,h1.get A=h.get A:=by
 rcases hs with ⟨_,h2,aj,rfl,_,hk⟩|⟨_,_,rfl,_,_⟩
 .by_cases hb:tH T o=true
  .obtain ⟨rfl,_⟩:=ze9 hb aj
   exact ⟨rfl,λ_=>rfl⟩
  .by_cases hl:h.size<=h2.low
   .rcases (zhu (e:=e) hb hl).2.2 with h3|⟨t,a,x,aV,hx,h3⟩|⟨_,h3⟩
    .omega
    .unfold gL at aj
     simp only [aV,cA,cV] at aj
     obtain ⟨_,_,_,rfl⟩:=aj
     exact ⟨rfl,λ_=>rfl⟩
    .omega
   .exfalso
    have:=(Te (e:=e) hb hl).1
    omega
 .exact ⟨rfl,λ_=>rfl⟩
theorem fC.other (hs:fC P T C ops o e e1 h h1 v k) (gz:k % 3=2) (hk5:5<=k):∀ A,A < h.size->5+3*A≠k->h1.get A=h.get A:=by
 rcases hs with ⟨_,h2,aj,rfl,_,hk⟩|⟨_,_,rfl,_,_⟩
 .intro A dx hA
  by_cases hb:tH T o=true
  .rw [zjf hb] at hk;omega
  .by_cases hl:h.size<=h2.low
   .have:=(zhu (e:=e) hb hl).1
    omega
   .rcases (Te (e:=e) hb hl).2 with h3|⟨t,a,y,x,aV,hx,h3⟩|⟨c,a,as,x,n,m,aV,Xm,dU,hx,h3⟩
    .omega
    .have aQ:A≠x.block:=λe'=>by subst e';omega
     unfold gL at aj
     simp only [aV,hx,cA,cV] at aj
     obtain ⟨h4,hr,_,rfl⟩:=aj
     rw [Heap.jL]
     obtain ⟨B,off,sp⟩:=x
     unfold iH at hr
     split at hr
     .rename_i B' o' heq
      cases heq
      simp only [cH] at hr
      obtain ⟨n,_,hr⟩:=hr
      split at hr
      .unfold ki at hr
       split at hr
       .rename_i cs e' hg
        split at hr
        .cases hr
         rw [Heap.aJ _ _ _ _ (Heap.bw hg),az aQ]
         rfl
        .cases hr
       .cases hr
      .cases hr
     .cases hr
    .have aQ:A≠x.block:=λe'=>by subst e';omega
     unfold gL at aj
     simp only [aV,Xm,dU] at aj
     rw [Heap.jL]
     split at aj
     .rename_i heq
      cases heq
      split at aj
      .rw [hx] at aj
       exact zml aj A dx aQ
      .cases aj
     .cases aj
 .intro A _ _;rfl

theorem bP.swap {ρ:cm} {w:World} (hs:bP ρ h w) (eR:∀ A L,ρ A=some L->h1.get A=h.get A\/h1.get A=none):bP ρ h1 w:=by
 refine ⟨λA L hA=>?_,λA A' L L' hA dS aQ hb=>?_⟩
 .rcases eR A L hA with h2|h2
  .rw [h2];exact hs.ff A L hA
  .rw [h2];exact hs.lt hA
 .have df:∀ B M,ρ B=some M->¬ live h B->¬ live h1 B:=by
   rintro B M hB hn ⟨b,h3,h4⟩
   rcases eR B M hB with h2|h2
   .exact hn ⟨b,by rw [<- h2];exact h3,h4⟩
   .rw [h2] at h3;cases h3
  rcases hs.inj A A' L L' hA dS aQ hb with h2|h2|⟨⟨c1,e1,h2⟩,⟨c2,e2,h3⟩⟩
  .exact .inl (df _ _ hA h2)
  .exact .inr (.inl (df _ _ dS h2))
  .rcases eR A L hA with h4|h4
   .rcases eR A' L' dS with h5|h5
    .exact .inr (.inr ⟨⟨c1,e1,by rw [h4];exact h2⟩,⟨c2,e2,by rw [h5];exact h3⟩⟩)
    .exact .inr (.inl (by rintro ⟨b,h6,_⟩;rw [h5] at h6;cases h6))
   .exact .inl (by rintro ⟨b,h6,_⟩;rw [h4] at h6;cases h6)

theorem Fr.step {ρ0 ρ ρ':cm} {h0 hf hi hj:Heap} {w0 w w':World} (f:Fr ρ0 ρ h0 hf w0 w) (g:Fr ρ ρ' hi hj w w') (h1:hf.low<=hj.low) (h2:hj.size<=hf.size) (h3:h0.size<=hi.size):Fr ρ0 ρ' h0 hf w0 w':=by
 refine ⟨λA L hA=>g.grow A L (f.grow A L hA),?_,g.os.trans f.os,g.tape.trans f.tape,g.output.trans f.output,gn f.size g.size,f.gJ,f.low,?_,f.qS⟩
 .intro A L hA hn
  cases hρ:ρ A with
  |some L1 =>
   have e:L1=L:=by have:=g.grow A L1 hρ;rw [hA] at this;exact (Option.some.inj this).symm
   subst e
   exact f.fresh A L1 hρ hn
  |none =>
   obtain ⟨k1,k2,k3⟩:=g.fresh A L hA hρ
   refine ⟨by omega,by omega,?_⟩
   rcases k3 with k3|⟨A0,L0,h5,he,hl,BC⟩
   .exact .inl (gn f.size k3)
   .cases GN:ρ0 A0 with
    |some L1 =>
     have e:L1=L0:=by have:=f.grow A0 L1 GN;rw [h5] at this;exact (Option.some.inj this).symm
     subst e
     exact .inr ⟨A0,L1,GN,he,by omega,by omega⟩
    |none =>
     rcases (f.fresh A0 L0 h5 GN).2.2 with h6|⟨A1,L1,h6,Xu,mW,X0⟩
     .exact .inl (by omega)
     .exact .inr ⟨A1,L1,h6,Xu.trans he,mW,X0⟩
 .intro b hb aH
  rw [g.keep b (dB hb f.size) ?_,f.keep b hb aH]
  intro A L hA hL
  cases hρ:ρ0 A with
  |some L0 =>
   have e:L0=L:=by have:=f.grow A L0 hρ;rw [hA] at this;exact (Option.some.inj this).symm
   subst e
   have:=aH A L0 hρ hL
   omega
  |none =>
   rcases (f.fresh A L hA hρ).2.2 with k1|⟨A0,L0,h5,he,hl,BC⟩
   .omega
   .have:=aH A0 L0 h5 (he.trans hL)
    omega

theorem zjj {x:Addr} {hh:Heap} (hg:hh.get x.block=h.get x.block):iD T t (.pointer (some x)) hh=iD T t (.pointer (some x)) h:=by
 obtain ⟨B,o,s⟩:=x
 cases s <;> simp only [iD,gD,hg]
theorem zss {x:Addr} (hl:iD T t (.pointer (some x)) h=some v):x.block < h.size:=by
 rcases lM x.block h.size with h1|h1
 .exact h1
 .exfalso
  have hn:h.get x.block=none:=by unfold Heap.get;rw [az (by omega)]
  obtain ⟨B,o,s⟩:=x
  simp only at hn
  cases s with
  |some q=>cases hl
  |none =>
   simp only [iD,gD,hn,cH] at hl
   obtain ⟨g,_,hl⟩:=hl
   cases g <;> simp at hl
theorem ziN {n:Nat} {ps:List (Nat × ab)} {h2:Heap} (hb:zq T t n ps h=some (v,h2)) (hs:h1.size=h.size):∃ b,h2=h.push b/\zq T t n ps h1=some (v,h1.push b):=by
 unfold zq at hb ⊢
 split at hb
 .rename_i e hd
  simp only [cH,Prod.exists] at hb
  obtain ⟨k,uR,z,hi,hb⟩:=hb
  split at hb
  .cases hb
  .rename_i hc
   simp only [cA,cV] at hb
   obtain ⟨cs,lS,rfl,rfl⟩:=hb
   refine ⟨_,rfl,?_⟩
   simp only [hi,dM]
   rw [az hc,lS,hs]
   rfl
 .cases hb
theorem zq0 {t:Nat} (h:Operand.tmp t∈o.op.operands.toList):t∈o.looksAt ops:=by
 unfold Oper.looksAt
 rw [mj]
 left
 rw [List.mem_filterMap]
 exact ⟨_,h,rfl⟩

set_option maxHeartbeats 1000000 in
theorem zd7 (nF:P.follows .mixedOrders=true) (hT:T.Fits P) {gs:List Nat} (hC:CS P gs C) (hg:uK C):DS P gs (qF P T C):=by
 intro rl id ops e0 e' h0 h' ρ0 a0 w0 Q aj cE WU BN R9 Xt hQ
 unfold qF at aj
 split at aj
 case h_2=>cases aj
 rename_i ks ee hh ey
 split at aj
 case isFalse=>cases aj
 rename_i Di
 cases aj
 obtain ⟨E,H,V,oD,sS,hEn,zX,lh,htr⟩:=zsY ops.toList e0 e' h0 h' ks ey
 rw [qM] at hEn zX
 have nK:∀ i o,ops[i]? = some o->fC P T C ops o (E i) (E (i+1)) (H i) (H (i+1)) (V i) (ks.getD i 2):=λi o ho=>htr i o (by simpa using ho)
 have eX:∀ i,i < ops.size->∃ o,ops[i]? = some o:=λi hi=>⟨_,xl hi⟩
 have cK:∀ i j,i<=j->j<=ops.size->bx (H i) (H j):=by
  intro i j dK
  induction dK with
  |refl=>intro _;exact .refl _
  |step dK ih =>
   rename_i k
   intro hj
   obtain ⟨o,ho⟩:=eX k (by omega)
   exact (ih (by omega)).trans ((nK k o ho).keeps hg)
 have gI:∀ i j,i<=j->j<=ops.size->(∀ k,i<=k->k < j->ks.getD k 2 % 3≠2)->∀ A,A < (H i).size->(H j).get A=(H i).get A:=by
  intro i j dK
  induction dK with
  |refl=>intro _ _ A _;rfl
  |step dK ih =>
   rename_i k
   intro hj hk A hA
   obtain ⟨o,ho⟩:=eX k (by omega)
   have h1:=(nK k o ho).same hg (hk k (by omega) (wt _)) A (dB hA (cK i k (by omega) (by omega)).size)
   exact h1.trans (ih (by omega) (λq h2 h3=>hk q h2 (by omega)) A hA)
 have wI:∀ j,j < ops.size->QE ops ks (pA ops.toList []) j=true:=λj hj=>iT.1 Di j (zN.2 hj)
 have nB:∀ (j:Nat) (o:Oper),ops[j]? = some o->∀ e∈o.after.toList,Region.binds .any e=true->e.on < j:=by
  intro j o ho e he hb
  have:=wI j (mQ.1 ho).1
  simp only [QE,ho,ep,iT] at this
  have h2:=this.1 e he
  simpa [hb] using h2
 have yN:∀ (i j:Nat) (oi oj:Oper),i < j->ops[i]? = some oi->ops[j]? = some oj->((pA ops.toList []).getD j 0).testBit i=true\/(oi.apart ops oj=true/\uv (ks.getD i 2) (ks.getD j 2)=true):=by
  intro i j oi oj dK Nk qC
  have:=wI j (mQ.1 qC).1
  simp only [QE,qC,ep,iT] at this
  have h2:=this.2 i (zN.2 dK)
  simpa [Nk] using h2
 clear Di wI
 let dst:Nat->Option Tmp:=λk=>(ops[k]?).bind (·.dst)
 refine wpIn_region_any nF ?_
 have Mg:∀ k,k<=ops.size->(E k).length=e0.length:=by
  intro k
  induction k with
  |zero=>intro _;rw [oD]
  |succ k ih =>
   intro hk
   obtain ⟨o,ho⟩:=eX k (by omega)
   rcases nK k o ho with ⟨_,_,_,_,h1,_⟩|⟨_,_,_,h1,_⟩ <;> rw [h1,Th,ih (by omega)]
 have Dc:∀ k o,ops[k]? = some o->E (k+1)=put (E k) (dst k) (V k):=by
  intro k o ho
  have hd:dst k=o.dst:=by simp [dst,ho]
  rw [hd]
  rcases nK k o ho with ⟨_,_,_,_,h1,_⟩|⟨_,h2,_,h1,_⟩
  .exact h1
  .rw [h1,h2]
 have fin:∀ (listed:Array Bool) (ρ:cm) (a:Act) (w:World),(∀ k,k < ops.size->listed.getD k false=true)->ct ρ (eS e0 dst V (λk=>listed.getD k false) ops.size) a.tmps->a.defers=a0.defers ->
  (∃ m,m<=ops.size/\bP ρ (H m) w/\(∀ k,k < m->ks.getD k 2 % 3=2->listed.getD k false=true)/\(m=ops.size\/(ks.getD m 2 % 3=2/\listed.getD m false=false)))->Fr ρ0 ρ h0 h' w0 w->Q .normal a w:=by
  intro listed ρ a w aH ld vk vB cW
  obtain ⟨m,il,kc,Ds,Dt⟩:=vB
  have hmn:m=ops.size:=by
   rcases Dt with h1|⟨_,h1⟩
   .exact h1
   .rcases lM m ops.size with h2|h2
    .rw [aH m h2] at h1;cases h1
    .omega
  subst hmn
  rw [zX] at kc
  have heq:∀ k,k<=ops.size->eS e0 dst V (λk=>listed.getD k false) k=E k:=by
   intro k
   induction k with
   |zero=>intro _;exact oD.symm
   |succ k ih =>
    intro hk
    obtain ⟨o,ho⟩:=eX k (by omega)
    simp only [eS]
    rw [aE (aH k (by omega)),ih (by omega),Dc k o ho]
  rw [heq _ (bj _),hEn] at ld
  exact hQ ρ a w cW kc ld vk
 have zi:∀ (listed:Array Bool),listed.size=ops.size->Region.ready .any ops listed=[]->∀ k,k < ops.size->listed.getD k false=true:=by
  intro listed Si hr k
  induction k using Nat.strongRecOn with
  |_ k ih =>
   intro hk
   cases hb:listed.getD k false with
   |true=>rfl
   |false =>
    exfalso
    obtain ⟨o,ho⟩:=eX k hk
    have b8:k∈Region.ready .any ops listed:=by
     rw [mem_ready]
     refine ⟨?_,o,ho,λe he IC=>?_⟩
     .have:k < listed.size:=by omega
      simp [this] at hb ⊢
      exact hb
     .have aT:=nB k o ho e (by simpa using he) IC
      exact ih e.on aT (by omega)
    rw [hr] at b8
    cases b8
 have main:∀ (fuel:Nat) (listed:Array Bool) (ρ:cm) (a:Act) (w:World),listed.size=ops.size->(List.range ops.size).countP (λk => !listed.getD k false)<=fuel ->
  (∀ (j:Nat) (o:Oper),ops[j]? = some o->listed.getD j false=true->∀ e∈o.after.toList,Region.binds .any e=true->listed.getD e.on false=true) ->
  ct ρ (eS e0 dst V (λk=>listed.getD k false) ops.size) a.tmps->a.defers=a0.defers ->
  (∃ m,m<=ops.size/\bP ρ (H m) w/\(∀ k,k < m->ks.getD k 2 % 3=2->listed.getD k false=true)/\(m=ops.size\/(ks.getD m 2 % 3=2/\listed.getD m false=false))) ->
  (∀ A L,ρ A=some L->ρ0 A=some L\/∃ j,j < ops.size/\listed.getD j false=true/\(H j).size<=A/\A < (H (j+1)).size) ->
  Fr ρ0 ρ h0 h' w0 w->wpAnyIn (WR rl) 0 P .any ops Q fuel listed a w:=by
  intro fuel
  induction fuel with
  |zero =>
   intro listed ρ a w Si ra k8 ld vk vB yj cW
   have aH:∀ k,k < ops.size->listed.getD k false=true:=by
    intro k hk
    have h1:=List.countP_eq_zero.1 (Nat.le_zero.1 ra) k (zN.2 hk)
    simpa using h1
   refine ⟨?_,fin listed ρ a w aH ld vk vB cW⟩
   apply List.eq_nil_iff_forall_not_mem.2
   intro i hi
   rw [mem_ready] at hi
   obtain ⟨h1,o,ho,_⟩:=hi
   have aT:i < ops.size:=(mQ.1 ho).1
   have h2:=aH i aT
   have:i < listed.size:=by omega
   simp [this] at h1 h2
   rw [h2] at h1
   cases h1
  |succ fuel ih =>
   intro listed ρ a w Si ra k8 ld vk vB yj cW
   refine ⟨λhr=>fin listed ρ a w (zi listed Si hr) ld vk vB cW,?_⟩
   intro i hi
   rw [mem_ready] at hi
   obtain ⟨sY,o,ho,nH⟩:=hi
   have sZ:i < ops.size:=(mQ.1 ho).1
   have Iz:listed.getD i false=false:=by
    have:i < listed.size:=by omega
    simp [this] at sY ⊢
    exact sY
   have DC:∀ e∈o.after.toList,Region.binds .any e=true->listed.getD e.on false=true:=λe he hb=>nH e (by simpa using he) hb
   have qZ:∀ k,(listed.setIfInBounds i true).getD k false=(decide (k=i) || listed.getD k false):=by
    intro k
    by_cases hk:k=i
    .subst hk
     have:k < listed.size:=by omega
     simp [this]
    .simp [HA (Ne.symm hk),hk]
   have mU:∀ k ok,k < i->ops[k]? = some ok->listed.getD k false=false->ok.apart ops o=true/\uv (ks.getD k 2) (ks.getD i 2)=true:=by
    intro k ok vu fh hk
    rcases yN k i ok o vu fh ho with h1|h1
    .have:=zjl (S:=λj=>listed.getD j false=true) nB k8 i i o k (bj _) ho DC h1
     rw [hk] at this
     cases this
    .exact h1
   have ju:∀ j oj,i < j->ops[j]? = some oj->listed.getD j false=true->o.apart ops oj=true/\uv (ks.getD i 2) (ks.getD j 2)=true:=by
    intro j oj dK qC hj
    rcases yN i j o oj dK ho qC with h1|h1
    .have:=zjl (S:=λj=>listed.getD j false=true) nB k8 j j oj i (bj _) qC (k8 j oj qC hj) h1
     rw [Iz] at this
     cases this
    .exact h1
   have ue:∀ t,t∈o.looksAt ops->(eS e0 dst V (λk=>listed.getD k false) ops.size).get t=(E i).get t:=by
    intro t ht
    have p1:∀ k,k<=i->(eS e0 dst V (λk=>listed.getD k false) k).get t=(E k).get t:=by
     intro k
     induction k with
     |zero=>intro _;rw [oD];rfl
     |succ k mq =>
      intro hk
      obtain ⟨ok,fh⟩:=eX k (by omega)
      rw [Dc k ok fh]
      simp only [eS]
      split
      .exact zeL (by rw [Hp,Mg k (by omega)]) (mq (by omega))
      .rename_i kB
       rw [mq (by omega),Je]
       intro hd
       have nX:=(Oper.apart_spec (mU k ok (by omega) fh (by simpa using kB)).1).1
       exact nX t (by simpa [dst,fh] using hd) ht
    have p2:∀ k,i<=k->k<=ops.size->(eS e0 dst V (λk=>listed.getD k false) k).get t=(eS e0 dst V (λk=>listed.getD k false) i).get t:=by
     intro k vq
     induction vq with
     |refl=>intro _;rfl
     |step vq mq =>
      rename_i k
      intro hk
      obtain ⟨ok,fh⟩:=eX k (by omega)
      simp only [eS]
      split
      .rename_i kB
       rw [Je,mq (by omega)]
       intro hd
       have aQ:i≠k:=λe=>by subst e;rw [Iz] at kB;cases kB
       have XT:i<=k:=vq
       have nX:=(Oper.apart_spec (ju k ok (by omega) fh kB).1).2.2
       exact nX t (by simpa [dst,fh] using hd) ht
      .exact mq (by omega)
    rw [p2 _ (by omega) (bj _),p1 i (bj _)]
   have Dy:∀ x∈o.op.operands.toList,bt (eS e0 dst V (λk=>listed.getD k false) ops.size) x=bt (E i) x:=by
    intro x hx
    cases x with
    |tmp t=>exact ue t (zq0 hx)
    |_=>rfl
   have NJ:nR ops o (eS e0 dst V (λk=>listed.getD k false) ops.size)=nR ops o (E i):=by
    unfold nR
    cases XM:o.guard with
    |none=>rfl
    |some g =>
     obtain ⟨j,b⟩:=g
     simp only
     cases hdj:(ops[j]?).bind (·.dst) with
     |none=>rfl
     |some t =>
      simp only
      rw [ue t (by unfold Oper.looksAt;rw [mj];right;simp [XM,hdj])]
   have MU:∀ t,(eS e0 dst V (λk=>(listed.setIfInBounds i true).getD k false) ops.size).get t=(put (eS e0 dst V (λk=>listed.getD k false) ops.size) o.dst (V i)).get t:=by
    intro t
    have hdi:dst i=o.dst:=by simp [dst,ho]
    have p1:∀ k,k<=i->eS e0 dst V (λk=>(listed.setIfInBounds i true).getD k false) k=eS e0 dst V (λk=>listed.getD k false) k:=by
     intro k
     induction k with
     |zero=>intro _;rfl
     |succ k mq =>
      intro hk
      have vu:decide (k=i)=false:=by simp;omega
      cases kB:listed.getD k false with
      |true=>rw [Ra (S:=λk=>(listed.setIfInBounds i true).getD k false) (by show (listed.setIfInBounds i true).getD k false=true;rw [qZ k,kB];simp),Ra (S:=λk=>listed.getD k false) kB,mq (by omega)]
      |false=>rw [JL (S:=λk=>(listed.setIfInBounds i true).getD k false) (by show (listed.setIfInBounds i true).getD k false=false;rw [qZ k,kB,vu];rfl),JL (S:=λk=>listed.getD k false) kB,mq (by omega)]
    have p2:∀ k,i+1<=k->k<=ops.size->(eS e0 dst V (λk=>(listed.setIfInBounds i true).getD k false) k).get t=(put (eS e0 dst V (λk=>listed.getD k false) k) o.dst (V i)).get t:=by
     intro k vq
     induction vq with
     |refl =>
      intro _
      rw [Ra (S:=λk=>(listed.setIfInBounds i true).getD k false) (by show (listed.setIfInBounds i true).getD i false=true;rw [qZ i];simp),p1 i (bj _),JL (S:=λk=>listed.getD k false) Iz,hdi]
     |step vq mq =>
      rename_i k
      intro hk
      have XT:i+1<=k:=vq
      obtain ⟨ok,fh⟩:=eX k (by omega)
      have vu:decide (k=i)=false:=by simp;omega
      have B0:=mq (by omega)
      cases kB:listed.getD k false with
      |true =>
       rw [Ra (S:=λk=>(listed.setIfInBounds i true).getD k false) (by show (listed.setIfInBounds i true).getD k false=true;rw [qZ k,kB];simp),Ra (S:=λk=>listed.getD k false) kB]
       have nX:=(Oper.apart_spec (ju k ok (by omega) fh kB).1).2.1
       have hdk:dst k=ok.dst:=by simp [dst,fh]
       have hlen:(eS e0 dst V (λk=>(listed.setIfInBounds i true).getD k false) k).length=(eS e0 dst V (λk=>listed.getD k false) k).length:=by rw [Hp,Hp]
       by_cases Xs:o.dst=some t
       .have aQ:dst k≠some t:=by rw [hdk];exact λe=>nX t Xs e
        rw [Je aQ,B0]
        exact zeL (by rw [Th]) (Je aQ).symm
       .rw [Je Xs] at B0
        rw [Je Xs]
        exact zeL hlen B0
      |false =>
       rw [JL (S:=λk=>(listed.setIfInBounds i true).getD k false) (by show (listed.setIfInBounds i true).getD k false=false;rw [qZ k,kB,vu];rfl),JL (S:=λk=>listed.getD k false) kB]
       exact B0
    exact p2 _ (by omega) (bj _)
   have vw:(listed.setIfInBounds i true).size=ops.size:=by simp [Si]
   have pf:(List.range ops.size).countP (λk => !(listed.setIfInBounds i true).getD k false)<=fuel:=by
    have:=zoj (p:=λk => !listed.getD k false) (p':=λk => !(listed.setIfInBounds i true).getD k false) (List.range ops.size)
     (λk _ hk=>by rw [qZ k] at hk;simp at hk ⊢;exact hk.2) ⟨i,zN.2 sZ,by rw [Iz];rfl,by rw [qZ i];simp⟩
    omega
   have lT:∀ (j:Nat) (oj:Oper),ops[j]? = some oj->(listed.setIfInBounds i true).getD j false=true->∀ e∈oj.after.toList,Region.binds .any e=true->(listed.setIfInBounds i true).getD e.on false=true:=by
    intro j oj qC hj e he hb
    rw [qZ e.on]
    rw [qZ j] at hj
    by_cases kQ:j=i
    .subst kQ
     rw [ho] at qC
     cases qC
     rw [DC e he hb]
     simp
    .have Se:listed.getD j false=true:=by simpa [kQ] using hj
     rw [k8 j oj qC Se e he hb]
     simp
   have ph:∀ (ρ':cm) (u:ab),(∀ A L,ρ A=some L->ρ' A=some L)->VR ρ' (V i) u->ct ρ' (eS e0 dst V (λk=>(listed.setIfInBounds i true).getD k false) ops.size) (a.put o.dst u).tmps:=by
    intro ρ' u XN hv
    have h1:=(ld.mono XN).put hv o.dst
    exact ⟨by rw [Hp,<- h1.1,Th,Hp],λt=>by rw [MU t];exact h1.2 t⟩
   have pg:∀ u,(a.put o.dst u).defers=a0.defers:=λu=>by cases o.dst <;> exact vk
   obtain ⟨m,il,kc,Ds,Dt⟩:=vB
   have lr:ks.getD i 2 % 3≠2->∀ (ρ':cm) (w':World),bP ρ' (H m) w'->∃ m,m<=ops.size/\bP ρ' (H m) w'/\(∀ k,k < m->ks.getD k 2 % 3=2->(listed.setIfInBounds i true).getD k false=true)/\(m=ops.size\/(ks.getD m 2 % 3=2/\(listed.setIfInBounds i true).getD m false=false)):=by
    intro wM ρ' w' dV
    refine ⟨m,il,dV,λk h1 h2=>by rw [qZ k,Ds k h1 h2];simp,?_⟩
    rcases Dt with h1|⟨h1,h2⟩
    .exact .inl h1
    .refine .inr ⟨h1,?_⟩
     have:m≠i:=λe=>by rw [e] at h1;exact wM h1
     rw [qZ m,h2]
     simp [this]
   have jK:∀ (ρ':cm),(∀ A L,ρ' A=some L->ρ A=some L\/((H i).size<=A/\A < (H (i+1)).size)) ->
    ∀ A L,ρ' A=some L->ρ0 A=some L\/∃ j,j < ops.size/\(listed.setIfInBounds i true).getD j false=true/\(H j).size<=A/\A < (H (j+1)).size:=by
    intro ρ' y6 A L hA
    rcases y6 A L hA with h1|h1
    .rcases yj A L h1 with h2|⟨j,h2,h3,h4⟩
     .exact .inl h2
     .exact .inr ⟨j,h2,by rw [qZ j,h3];simp,h4⟩
    .exact .inr ⟨i,sZ,by rw [qZ i];simp,h1⟩
   have pY:∀ A,(H i).size<=A->A < (H (i+1)).size->ρ A=none:=by
    intro A h1 h2
    cases hA:ρ A with
    |none=>rfl
    |some L =>
     exfalso
     rcases yj A L hA with h3|⟨j,h3,h4,h5,h6⟩
     .have h7:=(cK 0 i (by omega) (by omega)).size
      have h8:=(cK (i+1) ops.size (by omega) (bj _)).size
      rw [sS] at h7
      rw [zX] at h8
      rw [R9 A (by omega) (by omega)] at h3
      cases h3
     .have kQ:j≠i:=λe=>by subst e;rw [Iz] at h4;cases h4
      rcases lM j i with aT|ka
      .have:=(cK (j+1) i (by omega) (by omega)).size
       omega
      .have:=(cK (i+1) j (by omega) (by omega)).size
       omega
   unfold wpOpIn
   simp only [ho]
   rw [zkt ld,NJ]
   rcases nK i o ho with ⟨gW,h2,lU,RX,_,hk⟩|⟨gW,hv,RX,_,hk⟩
   .rw [aE gW]
    have po:jR ρ o:=(cE o (by simpa using Array.mem_of_getElem? ho)).mono cW.grow
    have hG:=WU.mono cW.grow
    have ym:∀ hx,gL P T C (eS e0 dst V (λk=>listed.getD k false) ops.size) o hx=gL P T C (E i) o hx:=λhx=>zox hx Dy
    by_cases hb:tH T o=true
    .rw [zjf hb] at hk
     have yl:=(ze9 hb lU).2 (H m)
     have kB:ks.getD i 2 % 3≠2:=by omega
     have qa:=DX (h':=H m) hT hC hG kc ld po (λA h1 h2=>by omega) (by rw [ym];exact yl)
     refine qa.wp (DZ lU) λρ' u w' f1 s1 v1=>?_
     have gI:∀ A L,ρ' A=some L->ρ A=some L:=by
      intro A L hA
      cases hρ:ρ A with
      |some L1=>have:=f1.grow A L1 hρ;rw [hA] at this;exact this.symm
      |none=>have:=f1.fresh A L hA hρ;omega
     refine ih _ ρ' _ w' vw pf lT (ph ρ' u f1.grow v1) (pg u) (lr kB ρ' w' s1) (jK ρ' λA L hA=>.inl (gI A L hA)) ?_
     have k1:=cK m ops.size il (bj _)
     have k2:=cK 0 m (by omega) il
     rw [zX] at k1
     rw [sS] at k2
     exact cW.step f1 k1.low k1.size k2.size
    .have kI:=cK i ops.size (by omega) (bj _)
     have Sw:=cK (i+1) ops.size (by omega) (bj _)
     have Sv:=cK 0 i (by omega) (by omega)
     rw [zX] at kI Sw
     rw [sS] at Sv
     have oH:(H (i+1)).size=h2.size:=by rw [RX]
     have uh:h'.low<=h2.low:=by
      have h3:=Sw.low
      rw [RX] at h3
      exact gn h3 (Et _ _)
     have yp:∀ A,(H (i+1)).get A=h2.get A:=λA=>by rw [RX];rfl
     by_cases eL:(H i).size<=h2.low
     ./- it turns nothing that is there -/
      obtain ⟨pj,wM,s8⟩:=zhu (T:=T) (e:=E i) hb eL
      rw [<- hk] at pj wM s8
      by_cases FZ:m < i
      ./- a load of one block, ahead of what turns another -/
       obtain ⟨hmk,Sk⟩:ks.getD m 2 % 3=2/\listed.getD m false=false:=by
        rcases Dt with h3|h3
        .omega
        .exact h3
       obtain ⟨om,II⟩:=eX m (by omega)
       have xY:∀ k ok,m < k->ops[k]? = some ok->listed.getD k false=true->ks.getD k 2 % 3=0:=by
        intro k ok h3 fh h7
        rcases yN m k om ok h3 II fh with h8|h8
        .have:=zjl (S:=λj=>listed.getD j false=true) nB k8 k k ok m (bj _) fh (k8 k ok fh h7) h8
         rw [Sk] at this
         cases this
        .have:=Jq hmk h8.2
         omega
       have M5:∀ k,m<=k->k < ops.size->ks.getD k 2 % 3=2->listed.getD k false=false:=by
        intro k h3 h4 h5
        by_cases h6:k=m
        .rw [h6];exact Sk
        .cases h7:listed.getD k false with
         |false=>rfl
         |true =>
          exfalso
          obtain ⟨ok,fh⟩:=eX k h4
          have:=xY k ok (by omega) fh h7
          omega
       have am1:=Jq hmk (mU m om FZ II Sk).2
       obtain ⟨t,a',x,aV,hx,hkv⟩:∃ t a x,o.op=.load t a/\bt (E i) a=.pointer (some x)/\ks.getD i 2=3+3*x.block:=by
        rcases s8 with h3|h3|⟨_,h3⟩
        .omega
        .exact h3
        .omega
       have pw:∀ k,m<=k->k < i->ks.getD k 2 % 3=2->5<=ks.getD k 2/\ks.getD i 2+2≠ks.getD k 2:=by
        intro k h3 h4 h5
        obtain ⟨ok,fh⟩:=eX k (by omega)
        have:=Jq h5 (mU k ok h4 fh (M5 k h3 (by omega) h5)).2
        omega
       have sW:=lU
       unfold gL at sW
       simp only [aV,hx,cA,cV] at sW
       obtain ⟨r,hr,Nu,_⟩:=sW
       have aT:x.block < (H i).size:=zss hr
       have hρx:∃ L,ρ x.block=some L:=by
        have Bu:a'∈o.op.operands.toList:=by rw [aV];simp [Op.operands]
        have h3:=ld.operand (po a' Bu)
        rw [Dy a' Bu,hx] at h3
        generalize a.eval a'=u at h3
        cases h3 with
        |ptr h=>exact ⟨_,h⟩
       have X8:x.block < (H m).size:=by
        obtain ⟨L,hL⟩:=hρx
        rcases yj x.block L hL with h3|⟨j,h3,h4,h5,h6⟩
        .have h7:=(cK 0 m (by omega) il).size
         rw [sS] at h7
         rcases lM x.block h0.size with h8|h8
         .omega
         .have h9:=kI.size
          rw [R9 x.block h8 (by omega)] at h3
          cases h3
        .rcases JY j m with h7|h7|h7
         .have:=(cK (j+1) m (by omega) il).size
          omega
         .rw [h7,Sk] at h4
          cases h4
         .obtain ⟨oj,qC⟩:=eX j h3
          have:=((nK j oj qC).still (xY j oj h7 qC h4)).1
          omega
       have vh:(H i).get x.block=(H m).get x.block:=by
        have BW:∀ d,m+d<=i->(H (m+d)).get x.block=(H m).get x.block:=by
         intro d
         induction d with
         |zero=>intro _;rfl
         |succ d GO =>
          intro hd
          obtain ⟨ok,fh⟩:=eX (m+d) (by omega)
          have h8:x.block < (H (m+d)).size:=dB X8 (cK m (m+d) (by omega) (by omega)).size
          rw [<- GO (by omega)]
          by_cases h9:ks.getD (m+d) 2 % 3=2
          .have h10:=pw (m+d) (by omega) (by omega) h9
           exact (nK (m+d) ok fh).other h9 h10.1 x.block h8 (by omega)
          .exact (nK (m+d) ok fh).same hg h9 x.block h8
        have h7:=BW (i - m) (by omega)
        rwa [show m+(i - m)=i by omega] at h7
       have yl:gL P T C (E i) o (H m)=some (V i,H m):=by
        unfold gL
        simp only [aV,hx,cA,cV]
        refine ⟨r,?_,Nu,trivial⟩
        rw [zjj (h:={ H i with low:=(H i).size }) (by rw [Heap.jL];exact vh.symm)]
        exact hr
       have qa:=DX (h':=H m) hT hC hG kc ld po (λA h1 h2=>by omega) (by rw [ym];exact yl)
       refine qa.wp (DZ lU) λρ' u w' f1 s1 v1=>?_
       have gI:∀ A L,ρ' A=some L->ρ A=some L:=by
        intro A L hA
        cases hρ:ρ A with
        |some L1=>have:=f1.grow A L1 hρ;rw [hA] at this;exact this.symm
        |none=>have:=f1.fresh A L hA hρ;omega
       refine ih _ ρ' _ w' vw pf lT (ph ρ' u f1.grow v1) (pg u) (lr pj ρ' w' s1) (jK ρ' λA L hA=>.inl (gI A L hA)) ?_
       have k1:=cK m ops.size il (bj _)
       have k2:=cK 0 m (by omega) il
       rw [zX] at k1
       rw [sS] at k2
       exact cW.step f1 k1.low k1.size k2.size
      have vt:i < m:=by
       rcases Dt with h3|⟨h3,h4⟩
       .omega
       .rcases lM i m with h5|h5
        .exact h5
        .exfalso
         have aQ:m≠i:=λe=>by rw [e] at h3;exact pj h3
         omega
      have pw:∀ k,i<=k->k < m->ks.getD k 2 % 3=2->5<=ks.getD k 2/\((ks.getD i 2 % 3=0/\3<=ks.getD i 2/\ks.getD i 2+2≠ks.getD k 2)\/(ks.getD i 2 % 3=1/\3<=ks.getD i 2/\ks.getD k 2+2<=ks.getD i 2)):=by
       intro k h3 h4 h5
       have aQ:k≠i:=λe=>by rw [e] at h5;exact pj h5
       have h6:=Ds k h4 h5
       obtain ⟨ok,fh⟩:=eX k (by omega)
       rcases zwn h5 (ju k ok (by omega) fh h6).2 with h8|h8
       .exact (wM h8).elim
       .exact h8
      have vh:∀ (B j:Nat),i<=j->j<=m->B < (H j).size->(∀ k,i<=k->k < m->ks.getD k 2 % 3=2->5+3*B≠ks.getD k 2)->(H m).get B=(H j).get B:=by
       intro B j h3 h4 h5 h6
       have hx:∀ d,j+d<=m->(H (j+d)).get B=(H j).get B:=by
        intro d
        induction d with
        |zero=>intro _;rfl
        |succ d GO =>
         intro hd
         obtain ⟨ok,fh⟩:=eX (j+d) (by omega)
         have h7:=GO (by omega)
         have h8:B < (H (j+d)).size:=dB h5 (cK j (j+d) (by omega) (by omega)).size
         rw [<- h7]
         by_cases h9:ks.getD (j+d) 2 % 3=2
         .exact (nK (j+d) ok fh).other h9 (pw (j+d) (by omega) (by omega) h9).1 B h8 (h6 (j+d) (by omega) (by omega) h9)
         .exact (nK (j+d) ok fh).same hg h9 B h8
       have h7:=hx (m - j) (by omega)
       rwa [show j+(m - j)=m by omega] at h7
      by_cases pt:∃ t a x,o.op=.load t a/\bt (E i) a=.pointer (some x)/\ks.getD i 2=3+3*x.block
      .obtain ⟨t,a',x,aV,hx,hkv⟩:=pt
       have yl:gL P T C (E i) o (H m)=some (V i,H m):=by
        unfold gL at lU ⊢
        simp only [aV,hx,cA,cV] at lU ⊢
        obtain ⟨r,hr,h3,_⟩:=lU
        refine ⟨r,?_,h3,trivial⟩
        have aT:x.block < (H i).size:=zss hr
        rw [zjj (h:={ H i with low:=(H i).size }) (by rw [Heap.jL];exact vh x.block i (bj _) (by omega) aT (λk h4 h5 h6=>by have:=(pw k h4 h5 h6).2;omega))]
        exact hr
       have qa:=DX (h':=H m) hT hC hG kc ld po (λA h1 h2=>by omega) (by rw [ym];exact yl)
       refine qa.wp (DZ lU) λρ' u w' f1 s1 v1=>?_
       have gI:∀ A L,ρ' A=some L->ρ A=some L:=by
        intro A L hA
        cases hρ:ρ A with
        |some L1=>have:=f1.grow A L1 hρ;rw [hA] at this;exact this.symm
        |none=>have:=f1.fresh A L hA hρ;omega
       refine ih _ ρ' _ w' vw pf lT (ph ρ' u f1.grow v1) (pg u) (lr pj ρ' w' s1) (jK ρ' λA L hA=>.inl (gI A L hA)) ?_
       have k1:=cK m ops.size il (bj _)
       have k2:=cK 0 m (by omega) il
       rw [zX] at k1
       rw [sS] at k2
       exact cW.step f1 k1.low k1.size k2.size
      have Yb:∃ hx Fz:Heap,hx.size=(H i).size/\bP ρ hx w/\gL P T C (E i) o hx=some (V i,Fz)/\Fz.size=h2.size/\h'.low<=Fz.low/\(H i).size<=Fz.low/\∀ A,(H i).size<=A->A < h2.size->(H m).get A=Fz.get A:=by
       rcases s8 with h3|h3|⟨⟨t,n,ps,aV⟩,hkv⟩
       .have nG:∀ k,i<=k->k < m->ks.getD k 2 % 3≠2:=by
         intro k h4 h5 h6
         have:=(pw k h4 h5 h6).2
         omega
        have hgI:∀ A,A < (H i).size->(H m).get A=(H i).get A:=gI i m (by omega) il nG
        have F8:∀ A,A < (H (i+1)).size->(H m).get A=(H (i+1)).get A:=gI (i+1) m (by omega) il (λk h3 h4=>nG k (by omega) h4)
        refine ⟨{ H i with low:=(H i).size },h2,rfl,?_,lU,rfl,uh,eL,λA h4 h5=>by rw [F8 A (by omega),yp A]⟩
        refine kc.swap λA L hA=>?_
        rw [Heap.jL]
        rcases lM A (H i).size with h3|h3
        .exact .inl (hgI A h3).symm
        .right
         unfold Heap.get
         rw [az (by omega)]
       .exact (pt h3).elim
       .have anl:=(cK i m (by omega) il).size
        have sW:=lU
        unfold gL at sW
        simp only [aV] at sW
        obtain ⟨b,qA,R2⟩:=ziN (h1:=(⟨(H i).size,(H m).tr,(H i).size⟩:Heap)) sW rfl
        have yC:h2.low=(H i).size:=by rw [qA];rfl
        have BQ:h2.size=(H i).size+1:=by rw [qA];rfl
        refine ⟨⟨(H i).size,(H m).tr,(H i).size⟩,_,rfl,?_,by unfold gL;simp only [aV];exact R2,by rw [BQ];rfl,by rw [yC] at uh;exact uh,bj _,λA h4 h5=>?_⟩
        .refine kc.swap λA L hA=>?_
         unfold Heap.get
         rcases lM A (H i).size with h3|h3
         .left
          rw [aE h3,aE (by omega)]
         .right
          rw [az (show ¬ A < (H i).size by omega)]
        .have hA:A=(H i).size:=by omega
         subst hA
         rw [vh _ (i+1) (by omega) (by omega) (by rw [oH,BQ];omega) (λk h6 h7 h8=>by have:=(pw k h6 h7 h8).2;omega),yp,qA,Heap.bg,Heap.bg,aE rfl,aE rfl]
      obtain ⟨hx,Fz,lJ,yT,Xx,h2s,yC,XO,hN⟩:=Yb
      have qa:=DX (h':=Fz) hT hC hG yT ld po (λA h3 h4=>pY A (by omega) (by omega)) (by rw [ym];exact Xx)
      refine qa.wp (DZ lU) λρ' u w' f1 s1 v1=>?_
      have jW:∀ A L,ρ' A=some L->ρ A=none->(H i).size<=A/\A < h2.size/\w.heap.size<=L.b:=by
       intro A L hA hn
       obtain ⟨h3,h4,h5⟩:=f1.fresh A L hA hn
       refine ⟨by omega,by omega,?_⟩
       rcases h5 with h5|⟨A0,L0,h6,_,h7,h8⟩
       .exact h5
       .rw [pY A0 (by omega) (by omega)] at h6
        cases h6
      have GK:∀ b,b < w.heap.size->w'.heap[b]? = w.heap[b]? := by
       intro b pe
       refine f1.keep b pe λA L hA _=>?_
       rcases lM A (H i).size with h3|h3
       .left;omega
       .right
        rcases lM A h2.size with h4|h4
        .rw [pY A h3 (by omega)] at hA;cases hA
        .omega
      have yS:bP ρ' (H m) w':=by
       refine ⟨λA L hA=>?_,λA A' L L' hA dS aQ tX=>?_⟩
       .cases hρ:ρ A with
        |none =>
         obtain ⟨h3,h4,_⟩:=jW A L hA hρ
         rw [hN A h3 h4]
         exact s1.ff A L hA
        |some L1 =>
         have e:L1=L:=by have:=f1.grow A L1 hρ;rw [hA] at this;exact (Option.some.inj this).symm
         subst e
         exact (kc.ff A L1 hρ).keep f1.grow f1.size λ_=>GK L1.b (kc.lt hρ)
       .cases hρ:ρ A with
        |none =>
         obtain ⟨h3,h4,h5⟩:=jW A L hA hρ
         cases y6:ρ A' with
         |none =>
          obtain ⟨h6,h7,h8⟩:=jW A' L' dS y6
          have hx:=s1.inj A A' L L' hA dS aQ tX
          unfold live nL at hx ⊢
          rw [hN A h3 h4,hN A' h6 h7]
          exact hx
         |some L1 =>
          have e:L1=L':=by have:=f1.grow A' L1 y6;rw [dS] at this;exact (Option.some.inj this).symm
          subst e
          have:=kc.lt y6
          omega
        |some L1 =>
         have e:L1=L:=by have:=f1.grow A L1 hρ;rw [hA] at this;exact (Option.some.inj this).symm
         subst e
         cases y6:ρ A' with
         |none =>
          obtain ⟨h6,h7,h8⟩:=jW A' L' dS y6
          have:=kc.lt hρ
          omega
         |some L2 =>
          have e:L2=L':=by have:=f1.grow A' L2 y6;rw [dS] at this;exact (Option.some.inj this).symm
          subst e
          exact kc.inj A A' L1 L2 hρ y6 aQ tX
      refine ih _ ρ' _ w' vw pf lT (ph ρ' u f1.grow v1) (pg u) ?_ (jK ρ' λA L hA=>?_) (cW.step f1 yC (by have:=Sw.size;omega) (by rw [lJ];exact Sv.size))
      .refine ⟨m,il,yS,λk h3 h4=>by rw [qZ k,Ds k h3 h4];simp,?_⟩
       rcases Dt with h3|⟨h3,h4⟩
       .exact .inl h3
       .refine .inr ⟨h3,?_⟩
        rw [qZ m,h4,show decide (m=i)=false by simp;omega]
        rfl
      .cases hρ:ρ A with
       |none=>right;have:=jW A L hA hρ;omega
       |some L1=>left;have:=f1.grow A L1 hρ;rw [hA] at this;rw [this]
     .obtain ⟨pj,_⟩:=Te (T:=T) (e:=E i) hb eL
      rw [<- hk] at pj
      have hmi:m=i:=by
       rcases JY m i with h3|h3|h3
       .exfalso
        rcases Dt with h4|⟨h4,h5⟩
        .omega
        .obtain ⟨om,II⟩:=eX m (by omega)
         have:=Jq h4 (mU m om h3 II h5).2
         omega
       .exact h3
       .have:=Ds i h3 pj
        rw [Iz] at this
        cases this
      subst hmi
      have yT:bP ρ { H m with low:=(H m).size } w:=kc.swap λA L _=>.inl rfl
      have qa:=DX (h':=h2) hT hC hG yT ld po (λA h3 h4=>pY A h3 (by omega)) (by rw [ym];exact lU)
      refine qa.wp (DZ lU) λρ' u w' f1 s1 v1=>?_
      have Ni:∃ m',m+1<=m'/\m'<=ops.size/\(∀ k,m+1<=k->k < m'->ks.getD k 2 % 3≠2)/\(m'=ops.size\/ks.getD m' 2 % 3=2):=by
       have hx:∀ d,d<=ops.size - (m+1)->(∀ k,m+1<=k->k < m+1+d->ks.getD k 2 % 3≠2)\/∃ m',m+1<=m'/\m'<=ops.size/\(∀ k,m+1<=k->k < m'->ks.getD k 2 % 3≠2)/\(m'=ops.size\/ks.getD m' 2 % 3=2):=by
        intro d
        induction d with
        |zero=>intro _;left;intro k h3 h4;omega
        |succ d GO =>
         intro hd
         rcases GO (by omega) with h3|h3
         .by_cases h4:ks.getD (m+1+d) 2 % 3=2
          .exact .inr ⟨m+1+d,by omega,by omega,h3,.inr h4⟩
          .left
           intro k h5 h6
           by_cases h7:k=m+1+d
           .rw [h7];exact h4
           .exact h3 k h5 (by omega)
         .exact .inr h3
       rcases hx (ops.size - (m+1)) (bj _) with h3|h3
       .exact ⟨ops.size,by omega,bj _,λk h4 h5=>h3 k h4 (by omega),.inl rfl⟩
       .exact h3
      obtain ⟨m',X9,Gl,Nc,Ya⟩:=Ni
      have F8:∀ A,A < (H (m+1)).size->(H m').get A=(H (m+1)).get A:=gI (m+1) m' X9 Gl Nc
      have Bx:∀ A L,ρ A=some L->A < h2.size\/(ρ0 A=some L/\h'.size<=A):=by
       intro A L hA
       rcases yj A L hA with h3|⟨j,h3,h4,h5,h6⟩
       .rcases lM A h2.size with h7|h7
        .exact .inl h7
        .rcases lM A h'.size with h8|h8
         .have h9:=Sv.size
          have h10:=(cK m (m+1) (by omega) (by omega)).size
          rw [R9 A (by omega) h8] at h3
          cases h3
         .exact .inr ⟨h3,h8⟩
       .left
        rcases lM j (m+1) with h7|h7
        .have:=(cK (j+1) (m+1) (by omega) (by omega)).size
         omega
        .exfalso
         obtain ⟨oj,qC⟩:=eX j h3
         have h9:ks.getD j 2 % 3=0:=by
          have:=Jq pj (ju j oj (by omega) qC h4).2
          omega
         have:=((nK j oj qC).still h9).1
         omega
      have yS:bP ρ' (H m') w':=by
       refine s1.swap λA L hA=>?_
       have dS:A < h2.size\/h'.size<=A:=by
        cases hρ:ρ A with
        |none=>left;exact (f1.fresh A L hA hρ).2.1
        |some L1 =>
         rcases Bx A L1 hρ with h3|h3
         .exact .inl h3
         .exact .inr h3.2
       rcases dS with h3|h3
       .left
        rw [F8 A (by omega),yp A]
       .right
        have h4:=(cK m' ops.size Gl (bj _)).size
        rw [zX] at h4
        unfold Heap.get
        rw [az (by omega)]
      refine ih _ ρ' _ w' vw pf lT (ph ρ' u f1.grow v1) (pg u) ⟨m',Gl,yS,?_,?_⟩ (jK ρ' λA L hA=>?_) (cW.step f1 uh (by have:=Sw.size;omega) Sv.size)
      .intro k h3 h4
       rw [qZ k]
       rcases lM k (m+1) with h5|h5
       .by_cases h6:k=m
        .simp [h6]
        .rw [Ds k (by omega) h4];simp
       .exact (Nc k h5 h3 h4).elim
      .rcases Ya with h3|h3
       .exact .inl h3
       .rcases lM m' ops.size with h4|h4
        .refine .inr ⟨h3,?_⟩
         rw [qZ m',show decide (m'=m)=false by simp;omega,Bool.false_or]
         cases pe:listed.getD m' false with
         |false=>rfl
         |true =>
          exfalso
          obtain ⟨om,II⟩:=eX m' h4
          have:=Jq pj (ju m' om (by omega) II pe).2
          omega
        .exact .inl (by omega)
      .cases hρ:ρ A with
       |none =>
        right
        obtain ⟨h3,h4,_⟩:=f1.fresh A L hA hρ
        have zU:(H m).size<=A:=h3
        omega
       |some L1=>left;have:=f1.grow A L1 hρ;rw [hA] at this;rw [this]
   .rw [az (by rw [gW];simp)]
    refine ⟨λ_ _=>trivial,?_⟩
    have hu:VR ρ (V i) undef:=by rw [hv];exact .undef ρ
    exact ih _ ρ _ w vw pf lT (ph ρ undef (λ_ _ h=>h) hu) (pg undef) (lr (by omega) ρ w kc) (jK ρ λA L hA=>.inl hA) cW
 have wM:=cK 0 ops.size (by omega) (bj _)
 rw [sS,zX] at wM
 have sX:∀ k,(Array.replicate ops.size false).getD k false=false:=by
  intro k
  rcases lM k ops.size with h1|h1 <;> simp [h1]
 have rh:∀ k,eS e0 dst V (λk=>(Array.replicate ops.size false).getD k false) k=e0:=by
  intro k
  induction k with
  |zero=>rfl
  |succ k ih=>rw [JL (S:=λk=>(Array.replicate ops.size false).getD k false) (sX k),ih]
 refine main ops.size _ ρ0 a0 _ (by simp) (by have:=List.countP_le_length (p:=λk => !(Array.replicate ops.size false).getD k false) (l:=List.range ops.size);simpa using this) ?_ ?_ rfl ?_ ?_ ?_
 .intro j o _ hj
  rw [sX j] at hj
  cases hj
 .rw [rh];exact Xt
 ./- the first that may turn something -/
  have F3:∃ m,m<=ops.size/\(∀ k,k < m->ks.getD k 2 % 3≠2)/\(m=ops.size\/ks.getD m 2 % 3=2):=by
   have hx:∀ d,d<=ops.size->(∀ k,k < d->ks.getD k 2 % 3≠2)\/∃ m,m<=ops.size/\(∀ k,k < m->ks.getD k 2 % 3≠2)/\(m=ops.size\/ks.getD m 2 % 3=2):=by
    intro d
    induction d with
    |zero=>intro _;left;intro k h4;omega
    |succ d GO =>
     intro hd
     rcases GO (by omega) with h3|h3
     .by_cases h4:ks.getD d 2 % 3=2
      .exact .inr ⟨d,by omega,h3,.inr h4⟩
      .left
       intro k h6
       by_cases h7:k=d
       .rw [h7];exact h4
       .exact h3 k (by omega)
     .exact .inr h3
   rcases hx ops.size (bj _) with h3|h3
   .exact ⟨ops.size,bj _,h3,.inl rfl⟩
   .exact h3
  obtain ⟨m,il,kc,Ds⟩:=F3
  refine ⟨m,il,?_,λk h1 h2=>(kc k h1 h2).elim,?_⟩
  .have mE:bP ρ0 h0 { w0 with drawn:=w0.drawn+1 }:=BN.same rfl
   refine mE.swap λA L hA=>?_
   rcases lM A h0.size with h1|h1
   .left
    have:=gI 0 m (by omega) il (λk _ h3=>kc k h3) A (by rw [sS];exact h1)
    rw [this,sS]
   .rcases lM A h'.size with h2|h2
    .rw [R9 A h1 h2] at hA;cases hA
    .right
     have h4:=(cK m ops.size il (bj _)).size
     rw [zX] at h4
     unfold Heap.get
     rw [az (by omega)]
  .rcases Ds with h1|h1
   .exact .inl h1
   .exact .inr ⟨h1,sX m⟩
 .intro A L hA;exact .inl hA
 .exact ⟨λ_ _ h=>h,λA L h1 h2=>(by rw [h1] at h2;cases h2),rfl,rfl,rfl,bj _,wM.size,wM.low,λ_ _ _=>rfl,wM.get⟩
end
end Go.Am
namespace Go.Am
open Go.RowKit
variable {C:Fn->List ab->Heap->Option (ab × Heap)} {v:ab} {h h':Heap} {E:Code->Env->Heap->Option (Ex × Env × Heap)} {fn:Func} {ρ:cm}

abbrev Ov:=FuncId->Option (List ab->Heap->Option (ab × Heap))

def iQ:Env->List Tmp->List ab->Env
 |e,t::ts,v::vs=>iQ (e.set t v) ts vs
 |e,_,_=>e
def Cm (A:Nat) (jump:Option Code) (h:Heap):Option (ab × Heap) :=
 match h.get A with
 |some (.loop env ps assign body _ _)=>some (.bool jump.isNone,h.set A (.loop env ps assign body (if jump.isNone then .ready else .done) jump))
 |_=>none
def Ef (E:Code->Env->Heap->Option (Ex × Env × Heap)) (A:Nat) (args:List ab) (h:Heap):Option (ab × Heap) :=
 match h.get A with
 |some (.loop env ps assign body _ _) =>
  if args.length=ps.length then
   match E assign (iQ env ps args) h with
   |some (.normal,e1,h1)=>match h1.get A with
    |some (.loop sR G5 pI xG .ready lq) =>
     (match E body e1 (h1.set A (.loop sR G5 pI xG .busy lq)) with
     |some (.normal,_,h2)=>Cm A none h2
     |some (.ret,_,h2)=>Cm A (some .ret) h2
     |some (.exit id,_,h2)=>Cm A (some (.exit id)) h2
     |none=>none)
    |_=>none
   |_=>none
  else none
 |_=>none

def zqF (d:Oper):Option Tmp:=match d.op with
 | .defer ⟨.value (.tmp t),args,_⟩=>if args.isEmpty && d.guard.isNone && d.dst.isNone then some t else none
 |_=>none
def Cw:Code->Option (List Code × Oper × Tmp × Code)
 | .seq (.region id ops false) b=>(match ops.toList with
  | [m,d]=>(match zqF d with
   |some t=>if m.guard.isNone then some ([],m,t,b) else (Cw b).map λ(pre,m,t,r)=>(.region id ops false::pre,m,t,r)
   |none=>(Cw b).map λ(pre,m,t,r)=>(.region id ops false::pre,m,t,r))
  |_=>(Cw b).map λ(pre,m,t,r)=>(.region id ops false::pre,m,t,r))
 | .seq a b=>(Cw b).map λ(pre,m,t,r)=>(a::pre,m,t,r)
 |_=>none
def vY (E:Code->Env->Heap->Option (Ex × Env × Heap)):List Code->Env->Heap->Option (Env × Heap)
 | [],e,h=>some (e,h)
 |c::cs,e,h=>match E c e h with
  |some (.normal,e',h')=>vY E cs e' h'
  |_=>none
section
variable (P:Program) (T:bI)
def wg (E:Code->Env->Heap->Option (Ex × Env × Heap)) (fn:Func) (g:ab) (e3:Env) (h3:Heap):Option (ab × Heap) :=
 match g with
 | .func (.func g) fi ca=>(T.fn g).bind λfg=>fg.body.bind λcg=>if mP cg then
  (match E cg ((fi.toList++ca.toList)++List.replicate (fg.ntmps - (fi.toList++ca.toList).length) undef) h3 with
  |some (.ret,e4,h4)=>(pz T fg e4 h4).bind λ_=>(pz T fn e3 h4).map λv=>(v,h4)
  |some (.normal,e4,h4)=>(pz T fg e4 h4).bind λ_=>(pz T fn e3 h4).map λv=>(v,h4)
  |_=>none)
  else none
 |_=>none
def Ek (E:Code->Env->Heap->Option (Ex × Env × Heap)) (C:Fn->List ab->Heap->Option (ab × Heap)) (fn:Func) (c:Code) (e:Env) (h:Heap):Option (ab × Heap) :=
 (Cw c).bind λ(pre,m,t,rest)=>if pre.all mP && mP rest then
  (vY E pre e h).bind λ(e1,h1)=>(gL P T C e1 m h1).bind λ(v,h2) =>
   match E rest (put e1 m.dst v) h2 with
   |some (.ret,e3,h3)=>wg T E fn ((put e1 m.dst v).get t) e3 h3
   |some (.normal,e3,h3)=>wg T E fn ((put e1 m.dst v).get t) e3 h3
   |_=>none
 else none
end

def call (P:Program) (T:bI) (ov:Ov):Nat->Fn->List ab->Heap->Option (ab × Heap)
 |0,_,_,_=>none
 |n+1,.func f,args,h =>
  match ov f with
  |some g=>g args h
  |none =>
   (T.fn f).bind λfn=>fn.body.bind λc =>
   if T.LS f then Ek P T (eh P T (call P T ov n) (qF P T (call P T ov n)) none n) (call P T ov n) fn c (args++List.replicate (fn.ntmps - args.length) undef) h else
   match eh P T (call P T ov n) (qF P T (call P T ov n)) none n c (args++List.replicate (fn.ntmps - args.length) undef) h with
   |some (.ret,e,h')=>(pz T fn e h').map λv=>(v,h')
   |some (.normal,e,h')=>(pz T fn e h').map λv=>(v,h')
   |_=>none
 |n+1,.yield A,args,h=>Ef (eh P T (call P T ov n) (qF P T (call P T ov n)) (some A) n) A args h
 |_,_,_,_=>none

def CV (P:Program) (gs:List Nat) (ov:Ov):Prop :=
 ∀ f g,ov f=some g->∀ args h v h',g args h=some (v,h')->bx h h'/\∀ ρ w (aK:Array ab),cX gs ρ->bP ρ h w->fJ ρ h h'->cu ρ args aK.toList->ZZ P ρ h h' w v f aK

section
variable {P:Program} {T:bI} {ov:Ov}

theorem zkK (hg:uK C) {ops:Array Oper} (l:List Oper) (e e':Env) (h h':Heap) (ks:List Nat) (aj:sj P T C ops l e h=some (ks,e',h')):bx h h':=by
 induction l generalizing e h ks with
 |nil=>simp only [sj,dO,cV] at aj;obtain ⟨_,_,rfl⟩:=aj;exact .refl _
 |cons o l ih =>
  simp only [sj] at aj
  split at aj
  .split at aj
   .rename_i v h2 hr
    simp only [cA,Prod.exists,cV] at aj
    obtain ⟨eU,x1,x2,cw,_,rfl,rfl⟩:=aj
    have hk:=Hm hg hr
    refine bx.trans ?_ (ih _ _ _ cw)
    exact ⟨hk.size,xA _ _,λA h3 h4=>hk.get A h3 (dB h4 (Et _ _))⟩
   .cases aj
  .simp only [cA,Prod.exists,cV] at aj
   obtain ⟨eU,x1,x2,cw,_,rfl,rfl⟩:=aj
   exact ih _ _ _ cw

theorem DY (hg:uK C):zvj (qF P T C):=by
 intro ops e h e' h' aj
 unfold qF at aj
 split at aj
 .rename_i hr
  split at aj
  .cases aj;exact zkK hg _ _ _ _ _ _ hr
  .cases aj
 .cases aj

theorem SI {A:Nat} {jump:Option Code} (aj:Cm A jump h=some (v,h')):bx h h':=by
 unfold Cm at aj
 split at aj
 .rename_i hg;cases aj;exact .set _ (Heap.bw hg)
 .cases aj
theorem zps (hE:∀ c e h x e' h',E c e h=some (x,e',h')->bx h h') {A:Nat} {args:List ab} (aj:Ef E A args h=some (v,h')):bx h h':=by
 unfold Ef at aj
 split at aj
 .split at aj
  .split at aj
   .rename_i h1 IJ
    split at aj
    .rename_i Dl
     have hk:∀ b,bx h (h1.set A b):=λb=>(hE _ _ _ _ _ _ IJ).trans (bx.set b (Heap.bw Dl))
     split at aj
     .rename_i ke;exact ((hk _).trans (hE _ _ _ _ _ _ ke)).trans (SI aj)
     .rename_i ke;exact ((hk _).trans (hE _ _ _ _ _ _ ke)).trans (SI aj)
     .rename_i ke;exact ((hk _).trans (hE _ _ _ _ _ _ ke)).trans (SI aj)
     .cases aj
    .cases aj
   .cases aj
  .cases aj
 .cases aj

theorem SW {E:Code->Env->Heap->Option (Ex × Env × Heap)} (hE:∀ c e h x e' h',E c e h=some (x,e',h')->bx h h'):∀ (pre:List Code) (e e':Env) (h h':Heap),vY E pre e h=some (e',h')->bx h h'
 | [],e,e',h,h',aj=>by simp only [vY,dO,cV] at aj;obtain ⟨_,rfl⟩:=aj;exact .refl _
 |c::cs,e,e',h,h',aj=>by
  simp only [vY] at aj
  split at aj
  .rename_i hr
   exact (hE _ _ _ _ _ _ hr).trans (SW hE cs _ _ _ _ aj)
  .cases aj
theorem Hn (hE:∀ c e h x e' h',E c e h=some (x,e',h')->bx h h') {g:ab} {e3:Env} {h3:Heap} (aj:wg T E fn g e3 h3=some (v,h')):bx h3 h':=by
 unfold wg at aj
 split at aj
 .simp only [cH] at aj
  obtain ⟨fg,_,cg,_,aj⟩:=aj
  split at aj
  .split at aj
   .rename_i hr
    simp only [cH,cA,cV] at aj
    obtain ⟨_,_,_,_,_,rfl⟩:=aj
    exact hE _ _ _ _ _ _ hr
   .rename_i hr
    simp only [cH,cA,cV] at aj
    obtain ⟨_,_,_,_,_,rfl⟩:=aj
    exact hE _ _ _ _ _ _ hr
   .cases aj
  .cases aj
 .cases aj
theorem zol (hC:uK C) (hE:∀ c e h x e' h',E c e h=some (x,e',h')->bx h h') {c:Code} {e:Env} (aj:Ek P T E C fn c e h=some (v,h')):bx h h':=by
 unfold Ek at aj
 simp only [cH,Prod.exists] at aj
 obtain ⟨pre,m,t,rest,_,aj⟩:=aj
 split at aj
 .simp only [cH,Prod.exists] at aj
  obtain ⟨e1,h1,hp,v1,h2,ho,aj⟩:=aj
  split at aj
  .rename_i hr
   exact (((SW hE _ _ _ _ _ hp).trans (Hm hC ho)).trans (hE _ _ _ _ _ _ hr)).trans (Hn hE aj)
  .rename_i hr
   exact (((SW hE _ _ _ _ _ hp).trans (Hm hC ho)).trans (hE _ _ _ _ _ _ hr)).trans (Hn hE aj)
  .cases aj
 .cases aj
theorem zhi {gs:List Nat} (r6:CV P gs ov):∀ n,uK (call P T ov n)
 |0=>by intro f args h v h' aj;simp [call] at aj
 |n+1=>by
  intro f args h v h' aj
  have ih:=zhi r6 n
  cases f with
  |func f =>
   simp only [call] at aj
   split at aj
   .rename_i g hg
    exact (r6 f g hg args h v h' aj).1
   .simp only [cH] at aj
    obtain ⟨fn,_,c,_,aj⟩:=aj
    split at aj
    .exact zol ih (λc e h x e' h' hr=>Hi ih (DY ih) _ _ _ _ _ _ _ _ hr) aj
    split at aj
    .rename_i hr
     simp only [cA,cV] at aj
     obtain ⟨_,_,_,rfl⟩:=aj
     exact Hi ih (DY ih) _ _ _ _ _ _ _ _ hr
    .rename_i hr
     simp only [cA,cV] at aj
     obtain ⟨_,_,_,rfl⟩:=aj
     exact Hi ih (DY ih) _ _ _ _ _ _ _ _ hr
    .cases aj
  |yield A =>
   simp only [call] at aj
   exact zps (λc e h x e' h' hr=>Hi ih (DY ih) _ _ _ _ _ _ _ _ hr) aj
  |_=>simp [call] at aj

theorem ct.enter {args:List ab} {aK:Array ab} (hv:cu ρ args aK.toList) (n:Nat):ct ρ (args++List.replicate (n - args.length) undef) (aK++Array.replicate (n - aK.size) undef):=by
 have hl:args.length=aK.size:=by simpa using hv.1
 refine ⟨by simp [hl],λi=>?_⟩
 rw [Env.get_eq]
 rcases lM i args.length with h1|h1
 .rw [nc h1]
  have hx:args[i]? = some args[i]:=gF h1
  obtain ⟨y,hy,dp⟩:=hv.get hx
  have h2:i < aK.size:=by omega
  have e1:(aK++Array.replicate (n - aK.size) undef).getD i undef=y:=by
   have h3:aK[i]? = some y:=by simpa using hy
   simp [Array.getElem?_append_left h2,h3]
  rw [e1,hx]
  exact dp
 .rw [qu h1]
  have e1:(aK++Array.replicate (n - aK.size) undef).getD i undef=undef:=by
   have h3:aK.size<=i:=by omega
   simp only [Array.getD_eq_getD_getElem?,Array.getElem?_append_right h3]
   by_cases h4:i - aK.size < n - aK.size
   .simp [h4]
   .simp [h4]
  rw [e1]
  by_cases h4:i - args.length < n - args.length
  .simp [h4];exact .undef ρ
  .simp [h4];exact .undef ρ

theorem ct.set {ρ:cm} {e:Env} {tmps:Array ab} (he:ct ρ e tmps) {v u:ab} (hv:VR ρ v u) (d:Nat):ct ρ (Env.set e d v) (tmps.setIfInBounds d u):=by
 have:=ct.put (a:={ tmps:=tmps,defers:=[] }) he hv (some d)
 exact this

theorem ct.iQ {ρ:cm}:∀ (ps:List Tmp) (args:List ab) (aK:List ab) (e:Env) (tmps:Array ab),ct ρ e tmps->cu ρ args aK->ct ρ (Am.iQ e ps args) ((ps.zip aK).foldl (λtmps (t,a)=>tmps.setIfInBounds t a) tmps)
 | [],args,aK,e,tmps,he,_=>by cases args <;> exact he
 |t::ps,[],aK,e,tmps,he,hv=>by rw [hv.of_nil];exact he
 |t::ps,v::args,aK,e,tmps,he,hv=>by
  obtain ⟨u,m,rfl,h1,h2⟩:=hv.of_cons
  exact ct.iQ ps args m _ _ (he.set h1 t) h2

theorem zhW {ρ:cm} {h:Heap} {fn:Func} {tmps:Array ab} {R:Ending->World->Prop} {n0:Nat}:∀ (rs:List Nat) (w:World),rs.Nodup->(∀ r∈rs,n0<=r/\w.heap[r]? = some (.deferred (some []))/\∀ A L,ρ A=some L->L.b≠r)->bP ρ h w ->
 (∀ w',bP ρ h w'->w'.os=w.os->w'.tape=w.tape->w'.output=w.output->w'.heap.size=w.heap.size->(∀ b,(b < n0\/∃ A L,ρ A=some L/\L.b=b)->w'.heap[b]? = w.heap[b]?)->∃ v,(results fn tmps).run P w'=.ok v w'/\R (.returned v) w') ->
 LeavesInM Fence.wide 0 P fn tmps R (rs.map λr=>{ target:=.collected r,args:=#[] }) .returning w
 | [],w,_,_,hs,hR=>hR w hs rfl rfl rfl rfl (λ_ _=>rfl)
 |r::rs,w,iG,aH,hs,hR=>by
  obtain ⟨a1,a2,a3⟩:=aH r (by simp)
  have aT:r < w.heap.size:=(mQ.1 a2).1
  refine ⟨by simp,.inl ⟨r,_,rfl,run_takeDeferred a2,?_⟩⟩
  obtain ⟨IG,Nh⟩:=tN.1 iG
  have dx:(w.putObj r (.deferred none)).heap.size=w.heap.size:=by rw [S7];simp
  refine zhW (n0:=n0) rs _ Nh (λq hq=>?_) ⟨λA L hA=>(hs.ff A L hA).keep (λ_ _ h=>h) (by rw [dx];exact bj _) (λ_=>SO (a3 A L hA)),hs.inj⟩ λw' kS h1 h2 h3 h4 h5=>?_
  .obtain ⟨b1,b2,b3⟩:=aH q (by simp [hq])
   exact ⟨b1,(SO (λ(e:q=r)=>IG (e ▸ hq))).trans b2,b3⟩
  .refine hR w' kS h1 h2 h3 (h4.trans dx) λb hb=>(h5 b hb).trans (SO λe=>?_)
   subst e
   rcases hb with hb|⟨A,L,hA,hb⟩
   .omega
   .exact a3 A L hA hb

inductive lO (m:Oper) (t:Tmp) (rest:Code):List Code->Code->Prop where
 |here (id:Nat) (ops:Array Oper) (d:Oper) (args:Array Operand) (ats:Array TypeId):ops.toList=[m,d]->d.op=.defer ⟨.value (.tmp t),args,ats⟩->args.isEmpty=true->m.guard=none->d.guard=none->d.dst=none->lO m t rest [] (.seq (.region id ops false) rest)
 |step (a b:Code) (pre:List Code):lO m t rest pre b->lO m t rest (a::pre) (.seq a b)
theorem zon {d:Oper} {t:Tmp} (h:zqF d=some t):∃ args ats,d.op=.defer ⟨.value (.tmp t),args,ats⟩/\args.isEmpty=true/\d.guard=none/\d.dst=none:=by
 unfold zqF at h
 split at h
 .rename_i t' args ats aV
  split at h
  .rename_i hc
   cases h
   simp only [ep,Option.isNone_iff_eq_none] at hc
   exact ⟨args,ats,aV,hc.1.1,hc.1.2,hc.2⟩
  .cases h
 .cases h
theorem zrs:∀ (c:Code) (pre:List Code) (m:Oper) (t:Tmp) (rest:Code),Cw c=some (pre,m,t,rest)->lO m t rest pre c:=by
 intro c
 induction c with
 |seq a b _ jZ =>
  intro pre m t rest h
  have cQ:∀ (a:Code),((Cw b).map λ(pre,m,t,r)=>(a::pre,m,t,r))=some (pre,m,t,rest)->lO m t rest pre (.seq a b):=by
   intro a hm
   simp only [cA,Prod.exists,cV] at hm
   obtain ⟨Zo,m',t',r',hs,rfl,rfl,rfl,rfl⟩:=hm
   exact .step a b Zo (jZ _ _ _ _ hs)
  unfold Cw at h
  split at h
  .rename_i id ops b' heq
   cases heq
   split at h
   .rename_i m' d BH
    split at h
    .rename_i t' hd
     split at h
     .rename_i hg
      simp only [dO,cV] at h
      obtain ⟨rfl,rfl,rfl,rfl⟩:=h
      obtain ⟨args,ats,h1,h2,h3,h4⟩:=zon hd
      exact .here id ops d args ats BH h1 h2 (by simpa using hg) h3 h4
     .exact cQ _ h
    .exact cQ _ h
   .exact cQ _ h
  .rename_i a' b' _ heq
   cases heq
   exact cQ _ h
  .cases h
 |_=>intro pre m t rest h;simp [Cw] at h

theorem zom (hT:T.Fits P) {gs:List Nat} (hC:CS P gs C) (hg:uK C) 
 (hE:∀ (n0:Nat) (B:List Deferred) (c:Code) (e:Env) (h:Heap) (x:Ex) (e':Env) (h':Heap) (ρ:cm) (a:Act) (w:World) (Q:Exit->Act->World->Prop),E c e h=some (x,e',h')->cI ρ c->(true=true->mP c=true)->cX gs ρ->bP ρ h w->fJ ρ h h'->ct ρ e a.tmps->Marks n0 B true ρ w a.defers->Ig ρ none none->n0<=w.heap.size ->
  (∀ ρ' a' w',Fr ρ ρ' h h' w w'->bP ρ' h' w'->ct ρ' e' a'.tmps->Marks n0 B true ρ' w' a'.defers->Q x.to a' w')->c.wpIn (WR none) 0 P Q a w)
 (zW:∀ c e h x e' h',E c e h=some (x,e',h')->bx h h')
 {c:Code} {e:Env} {w:World} {tmps:Array ab} (BA:∀ g fg cg,T.fn g=some fg->fg.body=some cg->so gs cg=true) (cE:cI ρ c) (hG:cX gs ρ) (hs:bP ρ h w) (hf:fJ ρ h h') (he:ct ρ e tmps)
 (aj:Ek P T E C fn c e h=some (v,h')) :
 c.wpIn Fence.wide 0 P (bodyPostM Fence.wide 0 P fn λed w'=>∃ ρ' u,ed=.returned u/\Fr ρ ρ' h h' w w'/\bP ρ' h' w'/\VR ρ' v u) { tmps,defers:=[] } w:=by
 have key:∀ (pre:List Code) (m:Oper) (t:Tmp) (rest:Code) (c:Code),lO m t rest pre c->∀ (e:Env) (h1:Heap) (ρ1:cm) (w1:World) (a:Act),pre.all mP=true->mP rest=true->cI ρ1 c->cX gs ρ1->bP ρ1 h1 w1->fJ ρ1 h1 h'->ct ρ1 e a.tmps->a.defers=[]->Fr ρ ρ1 h h1 w w1 ->
  ((vY E pre e h1).bind λ(e1,h1)=>(gL P T C e1 m h1).bind λ(v,h2) =>
    match E rest (put e1 m.dst v) h2 with
    |some (.ret,e3,h3)=>wg T E fn ((put e1 m.dst v).get t) e3 h3
    |some (.normal,e3,h3)=>wg T E fn ((put e1 m.dst v).get t) e3 h3
    |_=>none)=some (v,h') ->
  c.wpIn Fence.wide 0 P (bodyPostM Fence.wide 0 P fn λed w'=>∃ ρ' u,ed=.returned u/\Fr ρ ρ' h h' w w'/\bP ρ' h' w'/\VR ρ' v u) a w1:=by
  intro pre m t rest c cG
  induction cG with
  |step a0 b0 anZ _ ih =>
   intro e h1 ρ1 w1 a nH fX cE hG hs hf he hd cW aj
   simp only [nU,ep] at nH
   simp only [vY,cH,Prod.exists] at aj
   obtain ⟨e2,h2,hp,aj⟩:=aj
   split at hp
   .rename_i e3 h3 hr
    have pj:bx h3 h':=by
     obtain ⟨v2,h4,ho,aj⟩:=aj
     have k1:=SW zW _ _ _ _ _ hp
     have k2:=Hm hg ho
     split at aj
     .rename_i ke;exact ((k1.trans k2).trans (zW _ _ _ _ _ _ ke)).trans (Hn zW aj)
     .rename_i ke;exact ((k1.trans k2).trans (zW _ _ _ _ _ _ ke)).trans (Hn zW aj)
     .cases aj
    refine wpIn_seq ?_
    refine hE w1.heap.size [] a0 e h1 .normal e3 h3 ρ1 a w1 _ hr cE.1 (λ_=>nH.1) hG hs (hf.left pj.size) he (by rw [hd];exact Marks.nil) trivial (bj _) λρ2 a2 w2 f2 s2 r2 d2=>?_
    obtain ⟨rs,m1,_,m2,_⟩:=d2
    rw [m2 rfl] at m1
    refine ih e3 h3 ρ2 w2 a2 nH.2 fX (cE.2.mono f2.grow) (hG.mono f2.grow) s2 (hf.right f2) r2 (by simpa using m1) (cW.trans f2) ?_
    simp only [cH,Prod.exists]
    exact ⟨e2,h2,hp,aj⟩
   .cases hp
  |here id ops d args ats BH aV dU Sj R5 Xr =>
   intro e h1 ρ1 w1 a _ fX cE hG hs hf he hd cW aj
   simp only [vY,cH,Prod.exists,dO,cV] at aj
   obtain ⟨e1,bC,⟨rfl,rfl⟩,v1,h2,ho,aj⟩:=aj
   have gz:bx h2 h':=by
    split at aj
    .rename_i ke;exact (zW _ _ _ _ _ _ ke).trans (Hn zW aj)
    .rename_i ke;exact (zW _ _ _ _ _ _ ke).trans (Hn zW aj)
    .cases aj
   refine wpIn_seq (wpIn_region_list ?_)
   rw [BH]
   have Yk:jR ρ1 m:=cE.1 m (by rw [BH];simp)
   have St:Region.wanted m (yielded ops a.tmps)=true:=by simp [Region.wanted,Sj]
   rw [wpListIn,aE St]
   have qa:=DX hT hC hG hs he Yk (hf.left gz.size) ho
   refine qa.wp (rl:=none) (DZ ho) λρ2 u w2 f2 s2 v2=>?_
   have rY:ct ρ2 (put e m.dst v1) (a.put m.dst u).tmps:=(he.mono f2.grow).put v2 m.dst
   have jv:(a.put m.dst u).defers=[]:=by cases m.dst <;> exact hd
   have hwd:Region.wanted d (yielded ops (a.put m.dst u).tmps)=true:=by simp [Region.wanted,R5]
   rw [wpListIn,aE hwd]
   have Ga:=rY.2 t
   have Gg:∃ x e3 h3,(x=Ex.ret\/x=.normal)/\E rest (put e m.dst v1) h2=some (x,e3,h3)/\wg T E fn ((put e m.dst v1).get t) e3 h3=some (v,h'):=by
    split at aj
    .rename_i e3 h3 ke;exact ⟨_,e3,h3,.inl rfl,ke,aj⟩
    .rename_i e3 h3 ke;exact ⟨_,e3,h3,.inr rfl,ke,aj⟩
    .cases aj
   obtain ⟨x,e3,h3,hx,ke,df⟩:=Gg
   unfold wg at df
   split at df
   .rename_i g fi ca vo
    rw [vo] at Ga
    generalize Xe:(a.put m.dst u).tmps.getD t undef=ag at Ga
    cases Ga with
    |func _ q1 q2 q3 q4 =>
     rename_i Da C7
     have kT:cu ρ2 fi.toList Da.toList:=⟨by simpa using q1,λi x y hx hy=>q3 i x y (by simpa using hx) (by simpa using hy)⟩
     have jB:cu ρ2 ca.toList C7.toList:=⟨by simpa using q2,λi x y hx hy=>q4 i x y (by simpa using hx) (by simpa using hy)⟩
     simp only [cH] at df
     obtain ⟨fg,F0,cg,R3,df⟩:=df
     split at df
     .rename_i lX
      have hae:(a.put m.dst u).eval (.tmp t)=.func (.func g) Da C7:=Xe
      have iq:(execOp (a.put m.dst u).eval d).run P w2=.ok (.defer { target:=.fn (.func g) C7,args:=Da }) w2:=by
       have FQ:args=#[]:=by simpa using dU
       simp [execOp,aV,resolve,hae,Deferred.ofValue,FQ]
      refine ⟨λfq hq=>trivial,?_⟩
      rw [show Oper.semAt Fence.wide.round (a.put m.dst u).eval d=execOp (a.put m.dst u).eval d from rfl,iq]
      simp only [Oper.uponIn,wpListIn,Xr,jv]
      have pj:bx h3 h':=Hn zW (show wg T E fn (.func (.func g) fi ca) e3 h3=some (v,h') by unfold wg;simp only [F0,dM,R3,lX,if_true];exact df)
      refine hE w2.heap.size [{ target:=.fn (.func g) C7,args:=Da }] rest _ _ _ _ _ ρ2 _ w2 _ ke (cE.2.mono f2.grow) (λ_=>fX) (hG.mono f2.grow) s2 ((hf.right f2).left pj.size) rY Marks.nil trivial (bj _) λρ3 a3 w3 f3 s3 r3 d3=>?_
      obtain ⟨rs,m1,_,m2,_⟩:=d3
      rw [m2 rfl] at m1
      have m1':a3.defers=[{ target:=.fn (.func g) C7,args:=Da }]:=by simpa using m1
      have hl:LeavesInM Fence.wide 0 P fn a3.tmps (λed w'=>∃ ρ' u,ed=.returned u/\Fr ρ ρ' h h' w w'/\bP ρ' h' w'/\VR ρ' v u) a3.defers .returning w3:=by
       rw [m1']
       obtain ⟨hPg,jy,_⟩:=hT.fn g fg F0
       have fV:¬ fg.name="runtime.NumGoroutine":=by simpa using jy
       refine ⟨by simp,.inr ⟨(λhh=>by cases hh),_,_,g,Da++C7,rfl,?_,λ_ _=>trivial,?_⟩⟩
       .show (callFunc g (Da++C7)).run P w3=_
        simp [callFunc,hPg,fV,R3]
       .have gK:cu ρ3 (fi.toList++ca.toList) (Da++C7).toList:=by
         have:=(kT.append jB).mono f3.grow
         simpa using this
        have heg:=ct.enter gK fg.ntmps
        have Nt:∃ y e4 h4 vg,(y=Ex.ret\/y=.normal)/\E cg ((fi.toList++ca.toList)++List.replicate (fg.ntmps - (fi.toList++ca.toList).length) undef) h3=some (y,e4,h4)/\pz T fg e4 h4=some vg/\pz T fn e3 h4=some v/\h4=h':=by
         split at df
         .rename_i e4 h4 yP
          simp only [cH,cA,cV] at df
          obtain ⟨vg,NH,v',ND,rfl,rfl⟩:=df
          exact ⟨_,e4,h4,vg,.inl rfl,yP,NH,ND,rfl⟩
         .rename_i e4 h4 yP
          simp only [cH,cA,cV] at df
          obtain ⟨vg,NH,v',ND,rfl,rfl⟩:=df
          exact ⟨_,e4,h4,vg,.inr rfl,yP,NH,ND,rfl⟩
         .cases df
        obtain ⟨y,e4,h4,vg,hy,yP,NH,BS,rfl⟩:=Nt
        refine (callsDIn_of_wp (R:=λed w'=>∃ u,ed=.returned u/\∃ vr,(results fn a3.tmps).run P w'=.ok vr w'/\∃ ρ' u',Ending.returned vr=.returned u'/\Fr ρ ρ' h h4 w w'/\bP ρ' h4 w'/\VR ρ' v u') hPg R3 trivial ?_).mono ?_
        .refine hE w3.heap.size [] cg _ _ _ _ _ ρ3 _ w3 _ yP (.of (hG.mono (f2.trans f3).grow) (BA g fg cg F0 R3)) (λ_=>lX) (hG.mono (f2.trans f3).grow) s3 ((hf.right f2).right f3) heg Marks.nil trivial (bj _) λρ4 a4 w4 f4 s4 r4 d4=>?_
         obtain ⟨rs4,n1,_,n2,_⟩:=d4
         rw [n2 rfl] at n1
         have n1':a4.defers=[]:=by simpa using n1
         obtain ⟨ug,hug,_⟩:=SH hT s4 r4 NH
         obtain ⟨uf,huf,YG⟩:=SH hT s4 (r3.mono f4.grow) BS
         have hbp:a4.defers=[]/\∃ vv,(results fg a4.tmps).run P w4=.ok vv w4/\∃ u,Ending.returned vv=.returned u/\∃ vr,(results fn a3.tmps).run P w4=.ok vr w4/\∃ ρ' u',Ending.returned vr=.returned u'/\Fr ρ ρ' h h4 w w4/\bP ρ' h4 w4/\VR ρ' v u' :=
          ⟨n1',ug,hug,ug,rfl,uf,huf,ρ4,uf,rfl,((cW.trans f2).trans f3).trans f4,s4,YG⟩
         rcases hy with rfl|rfl
         .exact hbp
         .exact hbp
        .rintro ed u' w' ⟨rfl,uu,rfl,vr,oc,hR⟩
         exact ⟨vr,oc,hR⟩
      rcases hx with rfl|rfl
      .exact hl
      .exact hl
     .cases df
   .cases df
 unfold Ek at aj
 simp only [cH,Prod.exists] at aj
 obtain ⟨pre,m,t,rest,cG,aj⟩:=aj
 split at aj
 .rename_i lX
  simp only [ep] at lX
  exact key pre m t rest c (zrs _ _ _ _ _ cG) e h ρ w _ lX.1 lX.2 cE hG hs hf he rfl (Fr.refl _ _ _) aj
 .cases aj

theorem Ta (nF:P.follows .mixedOrders=true) (hT:T.Fits P) (r6:CV P T.gs ov):∀ n,CS P T.gs (call P T ov n)
 |0=>by
  refine ⟨?_,?_⟩
  .intro f args h v h' aj;simp [call] at aj
  .intro f args h v h' aj;simp [call] at aj
 |n+1=>by
  have An:=Ta nF hT r6 n
  have mq:=zhi (T:=T) r6 n
  have yi:=λ(rd rl:Option Nat) (n0:Nat)=>zd6 hT An mq (zd7 nF hT An mq) (DY mq) rd rl n0 [] false n
  have yx:=λ(rd:Option Nat)=>Hi (P:=P) (T:=T) mq (DY (P:=P) (T:=T) mq) rd n
  refine ⟨?_,?_⟩
  .intro f args h v h' aj ρ w aK hG hs hf hv
   simp only [call] at aj
   split at aj
   .rename_i g hg
    exact (r6 f g hg args h v h' aj).2 ρ w aK hG hs hf hv
   .simp only [cH] at aj
    obtain ⟨fn,vl,c,hc,aj⟩:=aj
    obtain ⟨hP,jy,cE⟩:=hT.fn f fn vl
    right
    refine ⟨?_,?_⟩
    .have fV:¬ fn.name="runtime.NumGoroutine":=by simpa using jy
     simp [callFunc,hP,fV,hc]
    .refine callsIn_wide.1 (callsIn_of_wp_marks (n:=0) hP hc trivial ?_)
     have he:=ct.enter hv fn.ntmps
     have go:∀ (x:Ex) (e:Env) (h2:Heap),x=.ret\/x=.normal->eh P T (call P T ov n) (qF P T (call P T ov n)) none n c (args++List.replicate (fn.ntmps - args.length) undef) h=some (x,e,h2) ->
      (pz T fn e h2).map (λv=>(v,h2))=some (v,h')->c.wpIn Fence.wide 0 P (bodyPostM Fence.wide 0 P fn λed w'=>∃ ρ' u,ed=.returned u/\Fr ρ ρ' h h' w w'/\bP ρ' h' w'/\VR ρ' v u) { tmps:=aK++Array.replicate (fn.ntmps - aK.size) undef,defers:=[] } w:=by
      intro x e h2 hx hr iq
      simp only [cA,cV] at iq
      obtain ⟨v',iq,rfl,rfl⟩:=iq
      refine yi none none w.heap.size c _ _ _ _ _ ρ _ w _ hr (.of hG (cE c hc)) (λq=>by cases q) hG hs hf he Marks.nil trivial (bj _) λρ' a' w' f1 s1 e1 d1=>?_
      obtain ⟨rs,m1,m2,_,m3⟩:=d1
      rw [bu] at m1
      have hl:LeavesInM Fence.wide 0 P fn a'.tmps (λed w'=>∃ ρ' u,ed=.returned u/\Fr ρ ρ' h h2 w w'/\bP ρ' h2 w'/\VR ρ' v' u) a'.defers .returning w':=by
       rw [m1]
       refine zhW rs w' m2 m3 s1 λw2 s2 q1 q2 q3 q4 q5=>?_
       obtain ⟨u,hu,lZ⟩:=SH hT s2 e1 iq
       refine ⟨u,hu,ρ',u,rfl,⟨f1.grow,f1.fresh,q1.trans f1.os,q2.trans f1.tape,q3.trans f1.output,by rw [q4];exact f1.size,f1.gJ,f1.low,λb hb aH=>?_,f1.qS⟩,s2,lZ⟩
       exact (q5 b (.inl hb)).trans (f1.keep b hb aH)
      rcases hx with rfl|rfl
      .exact hl
      .exact hl
     split at aj
     .exact zom hT An mq (λn0 B c e h x e' h' ρ a w Q=>zd6 hT An mq (zd7 nF hT An mq) (DY mq) none none n0 B true n c e h x e' h' ρ a w Q) (λc e h x e' h' hr=>yx none c e h x e' h' hr) (λg fg cg h1 h2=>(hT.fn g fg h1).2.2 cg h2) (.of hG (cE c hc)) hG hs hf he aj
     split at aj
     .rename_i e h2 hr;exact go .ret e h2 (.inl rfl) hr aj
     .rename_i e h2 hr;exact go .normal e h2 (.inr rfl) hr aj
     .cases aj
  .intro A args h v h' aj ρ w aK L hA hG hs hf hv
   simp only [call] at aj
   unfold Ef at aj
   split at aj
   .rename_i env ps assign body st fY hg
    split at aj
    .rename_i hlen
     split at aj
     .rename_i e1 h1 IJ
      split at aj
      .rename_i sR G5 pI xG lq Dl
       obtain ⟨lo,l1,l2,l3,l4,l5,l6,l7,l8,l9,_⟩:=Qb hs hA hg
       have lI:args.length=aK.size:=by simpa using hv.1
       have pq:lo.params.size=ps.length:=by rw [<- l4];simp
       refine ⟨lo.fn,(lo.params.zip aK).foldl (λtmps (t,a)=>tmps.setIfInBounds t a) lo.tmps,lo.assign,lo.body,?_,?_⟩
       .simp only [Instr.yield,Sem.run_bind,run_getLoop l1,Result.andThen_ok]
        rw [az (by omega)]
        simp
       .have key:∀ (x:Ex) (e2:Env) (h2:Heap) (jump:Option Code),eh P T (call P T ov n) (qF P T (call P T ov n)) (some A) n body e1 (h1.set A (.loop sR G5 pI xG .busy lq))=some (x,e2,h2) ->
         (jump=match x with | .normal=>none | .ret=>some .ret | .exit id=>some (.exit id))->Cm A jump h2=some (v,h')->RoundIn Fence.wide 0 P L.b lo.fn ((lo.params.zip aK).foldl (λtmps (t,a)=>tmps.setIfInBounds t a) lo.tmps) lo.assign lo.body w λed w'=>∃ ρ' u,ed=.returned u/\Fr ρ ρ' h h' w w'/\bP ρ' h' w'/\VR ρ' v u:=by
         intro x e2 h2 jump ke yu k9
         have k1:=yx (some A) _ _ _ _ _ _ IJ
         have k2:=yx (some A) _ _ _ _ _ _ ke
         have k3:=SI k9
         have s1:=k2.size
         have s2:=k3.size
         rw [Heap.size_set] at s1
         refine roundIn_of_wpIn (F:=Fence.wide) trivial ?_
         have Xt:ct ρ (iQ env ps args) ((lo.params.zip aK).foldl (λtmps (t,a)=>tmps.setIfInBounds t a) lo.tmps):=by
          have:=ct.iQ ps args aK.toList env lo.tmps l7 hv
          rw [<- Array.foldl_toList,Array.toList_zip,l4]
          exact this
         rw [l5]
         refine yi (some A) (some L.b) w.heap.size assign _ _ _ _ _ ρ _ w _ IJ l8 (λq=>by cases q) hG hs (hf.left (by omega)) Xt Marks.nil ⟨L,hA,rfl⟩ (bj _) λρ1 a1 w1 f1 sm1 en1 d1=>?_
         have oC:=f1.grow A L hA
         obtain ⟨lo1,p1,p2,p3,p4,p5,p6,p7,p8,p9,p10⟩:=Qb sm1 oC Dl
         obtain ⟨f2,sm2⟩:=p10 .busy lq
         have X6:({ lo1 with state:=LoopState.busy,pending:=lq }:Loop)={ lo1 with state:=LoopState.busy }:=by subst p3;rfl
         rw [X6] at f2 sm2
         refine ⟨_,run_beginRound p1 p2,?_⟩
         rw [l6]
         refine yi (some A) (some L.b) w.heap.size body _ _ _ _ _ ρ1 a1 _ _ ke (l9.mono f1.grow) (λq=>by cases q) (hG.mono f1.grow) sm2 ?_ en1 (d1.step f2) ⟨L,oC,rfl⟩ (gn f1.size f2.size) λρ3 a3 w3 f3 sm3 en3 d3=>?_
         .have cW:fJ ρ1 h1 h2:=((hf.left (by omega)).right f1)
          exact cW
         .have wG:=f3.grow A L oC
          unfold Cm at k9
          split at k9
          .rename_i LY ps3 tQ CX kK aeY XL
           cases k9
           obtain ⟨G2,z1,z2,z3,z4,z5,z6,z7,z8,z9,ZP⟩:=Qb sm3 wG XL
           obtain ⟨f4,sm4⟩:=ZP (if jump.isNone then .ready else .done) jump
           have lV:∃ ρ' u,Ending.returned (.bool jump.isNone)=.returned u/\Fr ρ ρ' h (h2.set A (.loop LY ps3 tQ CX (if jump.isNone then .ready else .done) jump)) w (w3.putObj L.b (.loop { G2 with state:=if jump.isNone then .ready else .done,pending:=jump })) /\
            bP ρ' (h2.set A (.loop LY ps3 tQ CX (if jump.isNone then .ready else .done) jump)) (w3.putObj L.b (.loop { G2 with state:=if jump.isNone then .ready else .done,pending:=jump }))/\VR ρ' (.bool jump.isNone) u :=
            ⟨ρ3,_,rfl,((f1.trans f2).trans f3).trans f4,sm4,.bool _⟩
           have ey:=run_endRound (P:=P) jump z1
           cases x with
           |normal=>subst yu;exact ⟨_,_,ey,lV⟩
           |ret=>subst yu;exact ⟨_,_,ey,lV⟩
           |exit id=>subst yu;exact ⟨_,_,ey,lV⟩
          .cases k9
        split at aj
        .rename_i e2 h2 ke;exact key _ _ _ _ ke rfl aj
        .rename_i e2 h2 ke;exact key _ _ _ _ ke rfl aj
        .rename_i e2 h2 ke;exact key _ _ _ _ ke rfl aj
        .cases aj
      .cases aj
     .cases aj
    .cases aj
   .cases aj

theorem Fr.below {ρ':cm} {w w':World} (f:Fr ρ ρ' h h' w w') (s9:∀ A L,ρ A=some L->A < h'.low):Below w.heap.size w w' :=
 ⟨f.os,f.tape,f.output,f.size,λk hk=>f.keep k hk λA L hA _=>.inl (s9 A L hA)⟩

theorem zye (nF:P.follows .mixedOrders=true) (hT:T.Fits P) (r6:CV P T.gs ov) {n:Nat} {f:FuncId} {b:Bool} (hf:ov f=none) (ey:call P T ov n (.func f) [] h=some (.bool b,h')) (w:World) (ρ:cm)
 (hG:cX T.gs ρ) (hs:bP ρ h w) (bW:∀ A,h.size<=A->ρ A=none) (s9:∀ A L,ρ A=some L->A < h'.low) :
 Calls P f #[] w λe w'=>e=.returned (.bool b)/\Below w.heap.size w w':=by
 have lS:=(Ta nF hT r6 n).fn f [] h (.bool b) h' ey ρ w #[] hG hs (λA h1 _=>bW A h1) (.nil _)
 rcases lS with ⟨ρ',u,w',h1,_⟩|⟨_,h1⟩
 .exfalso
  cases n with
  |zero=>simp [call] at ey
  |succ n =>
   simp only [call,hf,cH] at ey
   obtain ⟨fn,vl,c,hc,_⟩:=ey
   obtain ⟨hP,jy,_⟩:=hT.fn f fn vl
   have fV:¬ fn.name="runtime.NumGoroutine":=by simpa using jy
   simp [callFunc,hP,fV,hc] at h1
 .refine h1.mono ?_
  rintro e w' ⟨ρ',u,rfl,f1,s1,hv⟩
  refine ⟨?_,f1.below s9⟩
  rw [hv.bD rfl]
end
end Go.Am
