/- A region that draws its order: the plain machine goes by the text; what it comes to does not hang on the order. No condition. -/
import Derived.Test.YtdplfgoifjjniaaGreatDoorG0
import Derived.Orders
import Derived.OrdersIn
namespace Go.Am
open Go.RowKit

def Zu (T:bD):List TypeId→Bool
 |t::_=>(match T.desc t with|some (.map _ _)=>false|_=>true)
 | []=>true
def mR (T:bD) (o:Oper):Bool :=
 match o.op with
 | .move _ | .assign _ | .pick _ _ _ | .build _ _ | .nilCheck _ | .binOp _ _ _ _ _ | .makeFunc _ _ _ | .slice _ _ _ _ _ | .fieldAddr _ _ _ | .field _ _ _ | .indexAddr _ _ _ | .extract _ _ | .unOp _ _ _ | .index _ _ _ | .makeInterface _ _ | .typeAssert _ _ _ _=>true
 | .convert s d _ => !n6 T s && !n6 T d
 | .call c=>match c.callee with
  | .builtin .len=>Zu T c.argTypes.toList
  | .builtin .min | .builtin .max | .builtin .cap=>true
  |_=>false
 |_=>false

section
variable (P:Program) (T:bD) (C:Fn→List Value→Heap→Option (Value × Heap))

def kg (o:Oper) (e:Env) (h h':Heap):Nat :=
 if mR T o then 0 else if h.size≤h'.low then (match o.op with
  | .load _ a=>(match aZ e a with
   | .pointer (some x)=>3+3*x.block
   |_=>1)
  | .buildSlice _ _ _=>4+3*h.size
  |_=>1)
 else (match o.op with
  | .store _ a _=>(match aZ e a with
   | .pointer (some x)=>5+3*x.block
   |_=>2)
  |_=>2)
def pD (ops:Array Oper):List Oper→Env→Heap→Option (List Nat × Env × Heap)
 | [],e,h=>some ([],e,h)
 |o::r,e,h =>
  if kP ops o e then
   match gM P T C e o { h with low:=h.size } with
   |some (v,h')=>(pD ops r (put e o.dst v) { h' with low:=min h.low h'.low }).map fun (ks,x)=>(kg T o e h h'::ks,x)
   |none=>none
  else (pD ops r (put e o.dst undef) h).map fun (ks,x)=>(0::ks,x)

def O9 (acc:List Nat) (o:Oper):Nat:=o.after.toList.foldl (fun s e=>if Region.binds .any e then s ||| 2 ^ e.on ||| acc.getD e.on 0 else s) 0
def lJ:List Oper→List Nat→List Nat
 | [],acc=>acc
 |o::r,acc=>lJ r (acc++[O9 acc o])
def oU (a b:Nat):Bool:=a == 0 || b == 0 || (a % 3 != 2 && b % 3 != 2) || (Nat.ble 5 b && b % 3 == 2 && Nat.ble 3 a && ((a % 3 == 0 && a+2 != b) || (a % 3 == 1 && Nat.ble (b+2) a)))
def Gu (ops:Array Oper) (ks ms:List Nat) (j:Nat):Bool :=
 match ops[j]? with
 |some oj=>oj.after.toList.all (fun e => !Region.binds .any e || decide (e.on < j)) &&
  (List.range j).all fun i=>(ms.getD j 0).testBit i || (match ops[i]? with
   |some oi=>oi.apart ops oj && oU (ks.getD i 2) (ks.getD j 2)
   |none=>true)
 |none=>true
def ES (ops:Array Oper) (ks ms:List Nat):Bool:=(List.range ops.size).all (Gu ops ks ms)

def mu (ops:Array Oper) (e:Env) (h:Heap):Option (Env × Heap) :=
 match pD P T C ops ops.toList e h with
 |some (ks,e',h')=>if ES ops ks (lJ ops.toList []) then some (e',h') else none
 |none=>none
end

section
variable {P:Program} {T:bD} {C:Fn→List Value→Heap→Option (Value × Heap)}

theorem zrl {t:TypeId} {x:Value} {ts:List TypeId} (hb:Zu T (t::ts)=true) (h h2:Heap):bd T t x h=bd T t x h2:=by
 simp only [Zu] at hb
 unfold bd
 split at hb
 ·cases hb
 ·rename_i aO
  split
  all_goals first|rfl|(rename_i hd;exact (aO _ _ hd).elim)

theorem YE {e:Env} {o:Oper} {h h':Heap} {v:Value} (hb:mR T o=true) (ak:gM P T C e o h=some (v,h')):h'=h∧∀ h2,gM P T C e o h2=some (v,h2):=by
 have cE:∀ {r:Option Value},(r.map fun x=>(x,h))=some (v,h')→h'=h∧∀ h2:Heap,(r.map fun x=>(x,h2))=some (v,h2):=by
  intro r hr
  simp only [Option.map_eq_some_iff,Prod.mk.injEq] at hr
  obtain ⟨_,rfl,rfl,rfl⟩:=hr
  exact ⟨rfl,fun _=>rfl⟩
 have dA:gi P e o h=some (v,h')→h'=h∧∀ h2,gi P e o h2=some (v,h2):=by
  intro hp
  unfold gi at hp ⊢
  split at hp
  ·rename_i h1
   split at hp
   ·rename_i h2
    split at hp
    ·rename_i h3
     cases hp
     exact ⟨rfl,fun _=>by simp [h1,h3]⟩
    ·cases hp
   ·cases hp
  ·cases hp
 obtain ⟨dst,op,ty,pos,after,guard⟩:=o
 cases op <;> simp only [mR,Bool.false_eq_true] at hb <;> simp only [gM] at ak ⊢
 case move x=>cases ak;exact ⟨rfl,fun _=>rfl⟩
 case assign x=>cases ak;exact ⟨rfl,fun _=>rfl⟩
 case pick c a b =>
  split at ak
  ·cases ak;exact ⟨rfl,fun _=>rfl⟩
  ·cases ak
 case build=>exact cE ak
 case nilCheck x =>
  split at ak
  ·cases ak;exact ⟨rfl,fun _=>rfl⟩
  ·cases ak;exact ⟨rfl,fun _=>rfl⟩
  ·cases ak;exact ⟨rfl,fun _=>rfl⟩
  ·cases ak
 case makeInterface=>exact cE ak
 case typeAssert=>exact cE ak
 case binOp=>exact cE ak
 case makeFunc fn f c =>
  split at ak
  ·cases ak;exact ⟨rfl,fun _=>rfl⟩
  ·cases ak
 case slice=>exact cE ak
 case fieldAddr=>exact cE ak
 case field=>exact cE ak
 case indexAddr=>exact cE ak
 case extract t i =>
  split at ak
  ·exact cE ak
  ·cases ak
 case unOp=>exact dA ak
 case convert s d x =>
  simp only [Bool.and_eq_true,Bool.not_eq_true'] at hb
  rw [hb.1,hb.2] at ak ⊢
  exact dA ak
 case index=>exact dA ak
 case call c =>
  obtain ⟨callee,args,eH⟩:=c
  cases callee with
  |value f=>simp at hb
  |invoke r m=>simp at hb
  |builtin b =>
   cases b <;> simp at hb <;> simp only at ak ⊢
   case len =>
    split at ak
    ·rename_i rV mL
     rw [rV] at hb
     obtain ⟨e1,e2⟩:=cE ak
     exact ⟨e1,fun h2=>by rw [zrl hb h2 h];exact e2 h2⟩
    ·cases ak
   case min=>exact dA ak
   case max=>exact dA ak
   case cap =>
    split at ak
    ·exact cE ak
    ·cases ak

theorem zmG {e e':Env} {o:Oper} (h:Heap) (he:∀ x∈o.op.operands.toList,aZ e x=aZ e' x):gM P T C e o h=gM P T C e' o h:=by
 have dA:(∀ cs b,o.op≠.select cs b)→gi P e o h=gi P e' o h:=by
  intro WG
  unfold gi
  have h1:execOp (aZ e) o=execOp (aZ e') o:=execOp_congr o WG (fun x hx=>he x (by simpa using hx))
  have h2:(o.op.operands.toList.all fun x=>plain (aZ e x))=(o.op.operands.toList.all fun x=>plain (aZ e' x)):=by
   rw [Bool.eq_iff_iff,List.all_eq_true,List.all_eq_true]
   exact ⟨fun hh x hx=>by rw [← he x hx];exact hh x hx,fun hh x hx=>by rw [he x hx];exact hh x hx⟩
  rw [h1,h2]
 have mH:∀ (xs:List Operand),(∀ x∈xs,x∈o.op.operands.toList)→xs.map (aZ e)=xs.map (aZ e'):=fun xs hx=>List.map_congr_left fun x mL=>he x (hx x mL)
 unfold gM
 dsimp only
 split
 ·rename_i x aL;rw [he x (by simp [aL,Op.operands])]
 ·rename_i x aL;rw [he x (by simp [aL,Op.operands])]
 ·rename_i c a b aL;rw [he c (by simp [aL,Op.operands]),he a (by simp [aL,Op.operands]),he b (by simp [aL,Op.operands])]
 ·rfl
 ·rename_i t x aL;rw [he x (by simp [aL,Op.operands])]
 ·rename_i t ps aL
  rw [List.map_congr_left (g:=fun (p:Nat × Operand)=>(p.1,aZ e' p.2)) fun p hp=>by rw [he p.2 (by simp [aL,Op.operands];exact ⟨p.1,by simpa using hp⟩)]]
 ·rename_i t n ps aL
  rw [List.map_congr_left (g:=fun (p:Nat × Operand)=>(p.1,aZ e' p.2)) fun p hp=>by rw [he p.2 (by simp [aL,Op.operands];exact ⟨p.1,by simpa using hp⟩)]]
 ·rename_i t x aL;rw [he x (by simp [aL,Op.operands])]
 ·rename_i t a x aL;rw [he a (by simp [aL,Op.operands]),he x (by simp [aL,Op.operands])]
 ·rename_i x aL;rw [he x (by simp [aL,Op.operands])]
 ·rename_i op t x y yt aL;rw [he x (by simp [aL,Op.operands]),he y (by simp [aL,Op.operands])]
 ·rename_i fn f c aL
  have h1:=mH f.toList (fun x hx=>by simp [aL,Op.operands];left;simpa using hx)
  have h2:=mH c.toList (fun x hx=>by simp [aL,Op.operands];right;simpa using hx)
  have h3:f.map (aZ e)=f.map (aZ e'):=by apply Array.ext';simpa using h1
  have h4:c.map (aZ e)=c.map (aZ e'):=by apply Array.ext';simpa using h2
  rw [h3,h4]
 ·rename_i t l c aL;rw [he l (by simp [aL,Op.operands]),he c (by simp [aL,Op.operands])]
 ·rename_i t x l hi m aL
  have Dq:∀ (y:Option Operand),(∀ z,y=some z→z∈o.op.operands.toList)→y.map (aZ e)=y.map (aZ e'):=by
   intro y hy
   cases y with
   |none=>rfl
   |some z=>simp [he z (hy z rfl)]
  rw [he x (by simp [aL,Op.operands]),Dq l (fun z hz=>by subst hz;simp [aL,Op.operands]),Dq hi (fun z hz=>by subst hz;simp [aL,Op.operands]),Dq m (fun z hz=>by subst hz;simp [aL,Op.operands])]
 ·rename_i s x f aL;rw [he x (by simp [aL,Op.operands])]
 ·rename_i t x f aL;rw [he x (by simp [aL,Op.operands])]
 ·rename_i t x i aL;rw [he x (by simp [aL,Op.operands]),he i (by simp [aL,Op.operands])]
 ·rename_i t i aL;rw [he t (by simp [aL,Op.operands])]
 ·rename_i aL;exact dA (by simp [aL])
 ·rename_i s d x aL;rw [he x (by simp [aL,Op.operands]),dA (by simp [aL])]
 ·rename_i aL;exact dA (by simp [aL])
 ·rename_i c aL
  obtain ⟨callee,args,eH⟩:=c
  dsimp only
  have ha:=mH args.toList (fun x hx=>by simp [aL,Op.operands,Call.operands];right;simpa using hx)
  have b8:∀ x∈args.toList,aZ e x=aZ e' x:=fun x hx=>he x (by simp [aL,Op.operands,Call.operands];right;simpa using hx)
  split
  ·split
   ·rename_i h1 h2;rw [b8 _ (by rw [h2];simp),b8 _ (by rw [h2];simp)]
   ·rfl
  ·split
   ·rename_i h1 h2;rw [b8 _ (by rw [h2];simp),b8 _ (by rw [h2];simp)]
   ·rfl
  ·split
   ·rename_i h1 h2;rw [b8 _ (by rw [h2];simp)]
   ·rfl
  ·split
   ·rename_i h1 h2;rw [b8 _ (by rw [h2];simp)]
   ·rfl
  ·exact dA (by simp [aL])
  ·exact dA (by simp [aL])
  ·split
   ·rename_i h1 h2;rw [b8 _ (by rw [h2];simp),b8 _ (by rw [h2];simp)]
   ·rfl
  ·split
   ·rename_i h1 h2;rw [b8 _ (by rw [h2];simp)]
   ·rfl
  ·rename_i rv name
   rw [he rv (by simp [aL,Op.operands,Call.operands]),ha]
  ·rename_i f
   rw [he f (by simp [aL,Op.operands,Call.operands]),ha]
  ·rfl
 ·rename_i t r aL
  cases r with
  |none=>rfl
  |some x=>simp only;rw [he x (by simp [aL,Op.operands])]
 ·rename_i t x k ok aL;rw [he x (by simp [aL,Op.operands]),he k (by simp [aL,Op.operands])]
 ·rename_i t m k x aL;rw [he m (by simp [aL,Op.operands]),he k (by simp [aL,Op.operands]),he x (by simp [aL,Op.operands])]
 ·rename_i t m k x aL;rw [he m (by simp [aL,Op.operands]),he k (by simp [aL,Op.operands]),he x (by simp [aL,Op.operands])]
 ·rename_i t m k aL;rw [he m (by simp [aL,Op.operands]),he k (by simp [aL,Op.operands])]
 ·rename_i t m k x aL;rw [he m (by simp [aL,Op.operands]),he k (by simp [aL,Op.operands]),he x (by simp [aL,Op.operands])]
 ·rename_i t x aL;rw [he x (by simp [aL,Op.operands])]
 ·rename_i x xt t ok aL;rw [he x (by simp [aL,Op.operands])]
 ·rfl
end
end Go.Am
namespace Go.Am
open Go.RowKit

section
variable {P:Program} {T:bD} {C:Fn→List Value→Heap→Option (Value × Heap)}

def eT (P:Program) (T:bD) (C:Fn→List Value→Heap→Option (Value × Heap)) (ops:Array Oper) (o:Oper) (e e1:Env) (h h1:Heap) (v:Value) (k:Nat):Prop :=
 (kP ops o e=true∧∃ h2,gM P T C e o { h with low:=h.size }=some (v,h2)∧h1={ h2 with low:=min h.low h2.low }∧e1=put e o.dst v∧k=kg T o e h h2) ∨
 (kP ops o e=false∧v=undef∧h1=h∧e1=put e o.dst undef∧k=0)

theorem zqE {ops:Array Oper}:∀ (l:List Oper) (e e':Env) (h h':Heap) (ks:List Nat),pD P T C ops l e h=some (ks,e',h') →
 ∃ (E:Nat→Env) (H:Nat→Heap) (V:Nat→Value),E 0=e∧H 0=h∧E l.length=e'∧H l.length=h'∧ks.length=l.length ∧
   ∀ i o,l[i]? = some o→eT P T C ops o (E i) (E (i+1)) (H i) (H (i+1)) (V i) (ks.getD i 2)
 | [],e,e',h,h',ks,ak=>by
  simp only [pD,Option.some.injEq,Prod.mk.injEq] at ak
  obtain ⟨rfl,rfl,rfl⟩:=ak
  exact ⟨fun _=>e,fun _=>h,fun _=>undef,rfl,rfl,rfl,rfl,rfl,fun i o hi=>by simp at hi⟩
 |o::l,e,e',h,h',ks,ak=>by
  have glue:∀ (e1:Env) (h1:Heap) (v:Value) (k:Nat) (fF:List Nat),pD P T C ops l e1 h1=some (fF,e',h')→eT P T C ops o e e1 h h1 v k→ks=k::fF →
   ∃ (E:Nat→Env) (H:Nat→Heap) (V:Nat→Value),E 0=e∧H 0=h∧E (o::l).length=e'∧H (o::l).length=h'∧ks.length=(o::l).length ∧
     ∀ i o',(o::l)[i]? = some o'→eT P T C ops o' (E i) (E (i+1)) (H i) (H (i+1)) (V i) (ks.getD i 2):=by
   intro e1 h1 v k fF hr eb hk
   obtain ⟨E,H,V,bE,vJ,vK,Nv,h5',h6'⟩:=zqE l e1 e' h1 h' fF hr
   subst hk
   refine ⟨fun n=>match n with|0=>e|n+1=>E n,fun n=>match n with|0=>h|n+1=>H n,fun n=>match n with|0=>v|n+1=>V n,rfl,rfl,vK,Nv,by simp [h5'],?_⟩
   intro i o' hi
   cases i with
   |zero =>
    simp only [List.getElem?_cons_zero,Option.some.injEq] at hi
    subst hi
    simp only [bE,vJ,List.getD_cons_zero]
    exact eb
   |succ i =>
    have:=h6' i o' (by simpa using hi)
    simpa using this
  simp only [pD] at ak
  split at ak
  ·rename_i hw
   split at ak
   ·rename_i v h2 hr
    simp only [Option.map_eq_some_iff,Prod.exists,Prod.mk.injEq] at ak
    obtain ⟨fF,x1,x2,bo,hk,rfl,rfl⟩:=ak
    exact glue _ _ v _ fF bo (.inl ⟨hw,h2,hr,rfl,rfl,rfl⟩) hk.symm
   ·cases ak
  ·rename_i hw
   simp only [Option.map_eq_some_iff,Prod.exists,Prod.mk.injEq] at ak
   obtain ⟨fF,x1,x2,bo,hk,rfl,rfl⟩:=ak
   exact glue _ _ undef _ fF bo (.inr ⟨by simpa using hw,rfl,rfl,rfl,rfl⟩) hk.symm

/-! ### Who comes ahead of whom -/
theorem YH:∀ (l:List Oper) (acc:List Nat) (k:Nat),k < acc.length→(lJ l acc).getD k 0=acc.getD k 0
 | [],acc,k,_=>rfl
 |o::l,acc,k,hk=>by
  rw [lJ,YH l _ k (by simp;omega)]
  simp [List.getElem?_append_left hk]
theorem Zw:∀ (l:List Oper) (acc:List Nat) (t:Nat) (o:Oper),l[t]? = some o→∃ pO:List Nat,pO.length=acc.length+t∧(lJ l acc).getD (acc.length+t) 0=O9 pO o∧∀ k,k < acc.length+t→pO.getD k 0=(lJ l acc).getD k 0
 | [],acc,t,o,h=>by simp at h
 |o'::l,acc,0,o,h=>by
  simp only [List.getElem?_cons_zero,Option.some.injEq] at h
  subst h
  refine ⟨acc,rfl,?_,fun k hk=>?_⟩
  ·rw [lJ,Nat.add_zero,YH l _ acc.length (by simp)]
   simp
  ·rw [lJ,YH l _ k (by simp;omega)]
   simp [List.getElem?_append_left (show k < acc.length by omega)]
 |o'::l,acc,t+1,o,h=>by
  obtain ⟨pO,h1,h2,h3⟩:=Zw l (acc++[O9 acc o']) t o (by simpa using h)
  simp only [List.length_append,List.length_singleton] at h1 h2 h3
  rw [show acc.length+(t+1)=acc.length+1+t by omega]
  exact ⟨pO,h1,h2,h3⟩

theorem zhz {acc:List Nat} {o:Oper} {i:Nat} (h:(O9 acc o).testBit i=true):∃ e∈o.after.toList,Region.binds .any e=true∧(i=e.on∨(acc.getD e.on 0).testBit i=true):=by
 have key:∀ (l:List Edge) (s:Nat),(l.foldl (fun s e=>if Region.binds .any e then s ||| 2 ^ e.on ||| acc.getD e.on 0 else s) s).testBit i=true →
  s.testBit i=true∨∃ e∈l,Region.binds .any e=true∧(i=e.on∨(acc.getD e.on 0).testBit i=true):=by
  intro l
  induction l with
  |nil=>intro s hs;exact .inl hs
  |cons e l ih =>
   intro s hs
   rw [List.foldl_cons] at hs
   rcases ih _ hs with h1|⟨e',h1,h2,h3⟩
   ·split at h1
    ·rename_i hb
     rw [Nat.testBit_or,Nat.testBit_or,Bool.or_eq_true,Bool.or_eq_true] at h1
     rcases h1 with (h1|h1)|h1
     ·exact .inl h1
     ·rw [Nat.testBit_two_pow] at h1
      exact .inr ⟨e,by simp,hb,.inl (of_decide_eq_true h1).symm⟩
     ·exact .inr ⟨e,by simp,hb,.inr h1⟩
    ·exact .inl h1
   ·exact .inr ⟨e',by simp [h1],h2,h3⟩
 rcases key _ 0 h with h1|h1
 ·simp at h1
 ·exact h1

theorem zna {ops:Array Oper} {S:Nat→Prop} (mF:∀ (j:Nat) (o:Oper),ops[j]? = some o→∀ e∈o.after.toList,Region.binds .any e=true→e.on < j)
 (lj:∀ (j:Nat) (o:Oper),ops[j]? = some o→S j→∀ e∈o.after.toList,Region.binds .any e=true→S e.on) :
 ∀ (n j:Nat) (o:Oper) (i:Nat),j≤n→ops[j]? = some o→(∀ e∈o.after.toList,Region.binds .any e=true→S e.on)→((lJ ops.toList []).getD j 0).testBit i=true→S i:=by
 intro n
 induction n with
 |zero =>
  intro j o i hj ho hd hb
  obtain ⟨pO,h1,h2,h3⟩:=Zw ops.toList [] j o (by simpa using ho)
  simp only [List.length_nil,Nat.zero_add] at h1 h2 h3
  rw [h2] at hb
  obtain ⟨e,he,Fw,_⟩:=zhz hb
  have:=mF j o ho e he Fw
  omega
 |succ n ih =>
  intro j o i hj ho hd hb
  obtain ⟨pO,h1,h2,h3⟩:=Zw ops.toList [] j o (by simpa using ho)
  simp only [List.length_nil,Nat.zero_add] at h1 h2 h3
  rw [h2] at hb
  obtain ⟨e,he,Fw,hi⟩:=zhz hb
  have aS:=mF j o ho e he Fw
  have hS:=hd e he Fw
  rcases hi with rfl|hi
  ·exact hS
  ·rw [h3 e.on aS] at hi
   have FD:j < ops.size:=(Array.getElem?_eq_some_iff.1 ho).1
   have hoe:ops[e.on]? = some (ops[e.on]'(by omega)):=Array.getElem?_eq_getElem _
   exact ih e.on _ i (by omega) hoe (lj e.on _ hoe hS) hi

/-! ### The frame, by what is done -/
def eS (e0:Env) (dst:Nat→Option Tmp) (V:Nat→Value) (S:Nat→Bool):Nat→Env
 |0=>e0
 |k+1=>if S k then put (eS e0 dst V S k) (dst k) (V k) else eS e0 dst V S k

theorem MO {e0:Env} {dst:Nat→Option Tmp} {V:Nat→Value} {S:Nat→Bool} {k:Nat} (h:S k=true):eS e0 dst V S (k+1)=put (eS e0 dst V S k) (dst k) (V k):=by simp only [eS,h,if_true]
theorem GH {e0:Env} {dst:Nat→Option Tmp} {V:Nat→Value} {S:Nat→Bool} {k:Nat} (h:S k=false):eS e0 dst V S (k+1)=eS e0 dst V S k:=by simp only [eS,h,Bool.false_eq_true,if_false]
theorem OR (e:Env) (d:Option Tmp) (v:Value):(put e d v).length=e.length:=by cases d <;> simp [put,Env.length_set]
theorem Es (e0:Env) (dst:Nat→Option Tmp) (V:Nat→Value) (S:Nat→Bool):∀ k,(eS e0 dst V S k).length=e0.length
 |0=>rfl
 |k+1=>by
  simp only [eS]
  split
  ·rw [OR,Es e0 dst V S k]
  ·exact Es e0 dst V S k
theorem Gc {e:Env} {d:Option Tmp} {v:Value} {t:Nat} (h:d≠some t):(put e d v).get t=e.get t:=by
 cases d with
 |none=>rfl
 |some d=>simp only [put,Env.aC];rw [if_neg (fun hh=>h (by rw [hh.1]))]
theorem Yy {e e':Env} (hl:e.length=e'.length) {d:Option Tmp} {v:Value} {t:Nat} (h:e.get t=e'.get t):(put e d v).get t=(put e' d v).get t:=by
 cases d with
 |none=>exact h
 |some d=>simp only [put,Env.aC,hl,h]

end
end Go.Am
namespace Go.Am
open Go.RowKit

theorem zmt {p p':Nat→Bool}:∀ (l:List Nat),(∀ k∈l,p' k=true→p k=true)→(∃ x∈l,p x=true∧p' x=false)→l.countP p' < l.countP p
 | [],_,h=>by obtain ⟨x,hx,_⟩:=h;simp at hx
 |a::l,hle,h=>by
  have ac2:l.countP p'≤l.countP p:=List.countP_mono_left fun k hk=>hle k (by simp [hk])
  obtain ⟨x,hx,hp,lx⟩:=h
  rw [List.countP_cons,List.countP_cons]
  rcases List.mem_cons.1 hx with rfl|hx
  ·simp only [hp,lx,if_true,Bool.false_eq_true,if_false]
   omega
  ·have ih:=zmt l (fun k hk=>hle k (by simp [hk])) ⟨x,hx,hp,lx⟩
   by_cases ha:p' a=true
   ·rw [if_pos ha,if_pos (hle a (by simp) ha)];omega
   ·rw [if_neg ha];split <;> omega

section
variable {P:Program} {T:bD} {C:Fn→List Value→Heap→Option (Value × Heap)}

theorem Heap.kR (h:Heap) (x A:Nat):Heap.get { h with low:=x } A=h.get A:=rfl

theorem eT.keeps (hg:rp C) {ops:Array Oper} {o:Oper} {e e1:Env} {h h1:Heap} {v:Value} {k:Nat} (hs:eT P T C ops o e e1 h h1 v k):bl h h1:=by
 rcases hs with ⟨_,h2,ak,rfl,_,_⟩|⟨_,_,rfl,_,_⟩
 ·have hk:=Eg hg ak
  exact ⟨hk.size,Nat.min_le_left _ _,fun A h3 h4=>hk.get A h3 (Nat.lt_of_lt_of_le h4 (Nat.min_le_right _ _))⟩
 ·exact .refl _
theorem YD {o:Oper} {e:Env} {h h':Heap} (hb:mR T o=true):kg T o e h h'=0:=by unfold kg;rw [if_pos hb]
theorem Y1 {o:Oper} {e:Env} {h h':Heap} (hb:¬ mR T o=true) (hl:h.size≤h'.low):kg T o e h h' % 3≠2∧kg T o e h h'≠0 ∧
 (kg T o e h h'=1∨(∃ t a x,o.op=.load t a∧aZ e a=.pointer (some x)∧kg T o e h h'=3+3*x.block)∨((∃ t n ps,o.op=.buildSlice t n ps)∧kg T o e h h'=4+3*h.size)):=by
 unfold kg
 rw [if_neg hb,if_pos hl]
 split
 ·rename_i t a aL
  split
  ·rename_i x hx
   exact ⟨by omega,by omega,.inr (.inl ⟨t,a,x,aL,hx,rfl⟩)⟩
  ·exact ⟨by omega,by omega,.inl rfl⟩
 ·rename_i t n ps aL
  exact ⟨by omega,by omega,.inr (.inr ⟨⟨t,n,ps,aL⟩,rfl⟩)⟩
 ·exact ⟨by omega,by omega,.inl rfl⟩
theorem OO {o:Oper} {e:Env} {h h':Heap} (hb:¬ mR T o=true) (hl:¬ h.size≤h'.low):kg T o e h h' % 3=2 ∧
 (kg T o e h h'=2∨∃ t a y x,o.op=.store t a y∧aZ e a=.pointer (some x)∧kg T o e h h'=5+3*x.block):=by
 unfold kg
 rw [if_neg hb,if_neg hl]
 split
 ·rename_i t a y aL
  split
  ·rename_i x hx
   exact ⟨by omega,.inr ⟨t,a,y,x,aL,hx,rfl⟩⟩
  ·exact ⟨rfl,.inl rfl⟩
 ·exact ⟨rfl,.inl rfl⟩
theorem Pc {a b:Nat} (ha:a % 3=2) (hk:oU a b=true):b=0:=by
 unfold oU at hk
 simp only [Bool.or_eq_true,Bool.and_eq_true,beq_iff_eq,bne_iff_ne] at hk
 omega
theorem ztK {a b:Nat} (hb:b % 3=2) (hk:oU a b=true):a=0∨(5≤b∧((a % 3=0∧3≤a∧a+2≠b)∨(a % 3=1∧3≤a∧b+2≤a))):=by
 unfold oU at hk
 simp only [Bool.or_eq_true,Bool.and_eq_true,beq_iff_eq,bne_iff_ne,Nat.ble_eq] at hk
 omega
theorem eT.same (hg:rp C) {ops:Array Oper} {o:Oper} {e e1:Env} {h h1:Heap} {v:Value} {k:Nat} (hs:eT P T C ops o e e1 h h1 v k) (fp:k % 3≠2):∀ A,A < h.size→h1.get A=h.get A:=by
 rcases hs with ⟨_,h2,ak,rfl,_,hk⟩|⟨_,_,rfl,_,_⟩
 ·intro A hA
  by_cases hb:mR T o=true
  ·rw [Heap.kR,(YE hb ak).1];rfl
  ·by_cases hl:h.size≤h2.low
   ·exact (Eg hg ak).get A hA (by omega)
   ·exact (fp (by rw [hk];exact (OO hb hl).1)).elim
 ·intro A _;rfl
theorem eT.still {ops:Array Oper} {o:Oper} {e e1:Env} {h h1:Heap} {v:Value} {k:Nat} (hs:eT P T C ops o e e1 h h1 v k) (qM:k=0):h1.size=h.size∧∀ A,h1.get A=h.get A:=by
 rcases hs with ⟨_,h2,ak,rfl,_,hk⟩|⟨_,_,rfl,_,_⟩
 ·by_cases hb:mR T o=true
  ·obtain ⟨rfl,_⟩:=YE hb ak
   exact ⟨rfl,fun _=>rfl⟩
  ·exfalso
   by_cases hl:h.size≤h2.low
   ·exact (Y1 hb hl).2.1 (by rw [← hk,qM])
   ·have:=(OO (e:=e) hb hl).1
    omega
 ·exact ⟨rfl,fun _=>rfl⟩
theorem eT.other {ops:Array Oper} {o:Oper} {e e1:Env} {h h1:Heap} {v:Value} {k:Nat} (hs:eT P T C ops o e e1 h h1 v k) (fp:k % 3=2) (hk5:5≤k):∀ A,5+3*A≠k→h1.get A=h.get A:=by
 rcases hs with ⟨_,h2,ak,rfl,_,hk⟩|⟨_,_,rfl,_,_⟩
 ·intro A hA
  by_cases hb:mR T o=true
  ·rw [YD hb] at hk;omega
  ·by_cases hl:h.size≤h2.low
   ·have:=(Y1 (e:=e) hb hl).1
    omega
   ·rcases (OO (e:=e) hb hl).2 with h3|⟨t,a,y,x,aL,hx,h3⟩
    ·omega
    ·have aO:A≠x.block:=fun e'=>by subst e';omega
     unfold gM at ak
     simp only [aL,hx,Option.map_eq_some_iff,Prod.mk.injEq] at ak
     obtain ⟨h4,hr,_,rfl⟩:=ak
     rw [Heap.kR]
     obtain ⟨B,off,sp⟩:=x
     unfold gA at hr
     split at hr
     ·rename_i B' o' heq
      cases heq
      simp only [Option.bind_eq_some_iff] at hr
      obtain ⟨n,_,hr⟩:=hr
      split at hr
      ·unfold kW at hr
       split at hr
       ·rename_i cs e' hg
        split at hr
        ·cases hr
         rw [Heap.aC _ _ _ _ (Heap.bz hg),if_neg aO]
         rfl
        ·cases hr
       ·cases hr
      ·cases hr
     ·cases hr
 ·intro A _;rfl

theorem bK.swap {ρ:ct} {h h1:Heap} {w:World} (hs:bK ρ h w) (df:∀ A L,ρ A=some L→h1.get A=h.get A∨h1.get A=none):bK ρ h1 w:=by
 refine ⟨fun A L hA=>?_,fun A A' L L' hA dR aO hb=>?_⟩
 ·rcases df A L hA with h2|h2
  ·rw [h2];exact hs.jX A L hA
  ·rw [h2];exact hs.lt hA
 ·have cp:∀ B M,ρ B=some M→¬ live h B→¬ live h1 B:=by
   rintro B M hB hn ⟨b,h3,h4⟩
   rcases df B M hB with h2|h2
   ·exact hn ⟨b,by rw [← h2];exact h3,h4⟩
   ·rw [h2] at h3;cases h3
  rcases hs.inj A A' L L' hA dR aO hb with h2|h2|⟨⟨c1,e1,h2⟩,⟨c2,e2,h3⟩⟩
  ·exact .inl (cp _ _ hA h2)
  ·exact .inr (.inl (cp _ _ dR h2))
  ·rcases df A L hA with h4|h4
   ·rcases df A' L' dR with h5|h5
    ·exact .inr (.inr ⟨⟨c1,e1,by rw [h4];exact h2⟩,⟨c2,e2,by rw [h5];exact h3⟩⟩)
    ·exact .inr (.inl (by rintro ⟨b,h6,_⟩;rw [h5] at h6;cases h6))
   ·exact .inl (by rintro ⟨b,h6,_⟩;rw [h4] at h6;cases h6)

theorem Fr.step {ρ0 ρ ρ':ct} {h0 hf hi hj:Heap} {w0 w w':World} (f:Fr ρ0 ρ h0 hf w0 w) (g:Fr ρ ρ' hi hj w w') (h1:hf.low≤hj.low) (h2:hj.size≤hf.size) (h3:h0.size≤hi.size):Fr ρ0 ρ' h0 hf w0 w':=by
 refine ⟨fun A L hA=>g.grow A L (f.grow A L hA),?_,g.os.trans f.os,g.tape.trans f.tape,g.output.trans f.output,Nat.le_trans f.size g.size,f.gE,f.low,?_,f.qD⟩
 ·intro A L hA hn
  cases hρ:ρ A with
  |some L1 =>
   have e:L1=L:=by have:=g.grow A L1 hρ;rw [hA] at this;exact (Option.some.inj this).symm
   subst e
   exact f.fresh A L1 hρ hn
  |none =>
   obtain ⟨k1,k2,k3⟩:=g.fresh A L hA hρ
   refine ⟨by omega,by omega,?_⟩
   rcases k3 with k3|⟨A0,L0,h5,he,hl,rO⟩
   ·exact .inl (Nat.le_trans f.size k3)
   ·cases DT:ρ0 A0 with
    |some L1 =>
     have e:L1=L0:=by have:=f.grow A0 L1 DT;rw [h5] at this;exact (Option.some.inj this).symm
     subst e
     exact .inr ⟨A0,L1,DT,he,by omega,by omega⟩
    |none =>
     rcases (f.fresh A0 L0 h5 DT).2.2 with h6|⟨A1,L1,h6,VJ,kG,We⟩
     ·exact .inl (by omega)
     ·exact .inr ⟨A1,L1,h6,VJ.trans he,kG,We⟩
 ·intro b hb az
  rw [g.keep b (Nat.lt_of_lt_of_le hb f.size) ?_,f.keep b hb az]
  intro A L hA hL
  cases hρ:ρ0 A with
  |some L0 =>
   have e:L0=L:=by have:=f.grow A L0 hρ;rw [hA] at this;exact (Option.some.inj this).symm
   subst e
   have:=az A L0 hρ hL
   omega
  |none =>
   rcases (f.fresh A L hA hρ).2.2 with k1|⟨A0,L0,h5,he,hl,rO⟩
   ·omega
   ·have:=az A0 L0 h5 (he.trans hL)
    omega

theorem zo5 {t:TypeId} {x:Addr} {h hh:Heap} (hg:hh.get x.block=h.get x.block):dz T t (.pointer (some x)) hh=dz T t (.pointer (some x)) h:=by
 obtain ⟨B,o,s⟩:=x
 cases s <;> simp only [dz,gL,hg]
theorem zwM {t:TypeId} {x:Addr} {h:Heap} {v:Value} (hl:dz T t (.pointer (some x)) h=some v):x.block < h.size:=by
 rcases Nat.lt_or_ge x.block h.size with h1|h1
 ·exact h1
 ·exfalso
  have hn:h.get x.block=none:=by unfold Heap.get;rw [if_neg (by omega)]
  obtain ⟨B,o,s⟩:=x
  simp only at hn
  cases s with
  |some q=>cases hl
  |none =>
   simp only [dz,gL,hn,Option.bind_eq_some_iff] at hl
   obtain ⟨g,_,hl⟩:=hl
   cases g <;> simp at hl
theorem zij {t:TypeId} {n:Nat} {ps:List (Nat × Value)} {h h1 h2:Heap} {v:Value} (hb:lQ T t n ps h=some (v,h2)) (hs:h1.size=h.size):∃ b,h2=h.push b∧lQ T t n ps h1=some (v,h1.push b):=by
 unfold lQ at hb ⊢
 split at hb
 ·rename_i e hd
  simp only [Option.bind_eq_some_iff,Prod.exists] at hb
  obtain ⟨k,sy,z,hi,hb⟩:=hb
  split at hb
  ·cases hb
  ·rename_i hc
   simp only [Option.map_eq_some_iff,Prod.mk.injEq] at hb
   obtain ⟨cs,kC,rfl,rfl⟩:=hb
   refine ⟨_,rfl,?_⟩
   simp only [hi,Option.bind_some]
   rw [if_neg hc,kC,hs]
   rfl
 ·cases hb
theorem zo7 {ops:Array Oper} {o:Oper} {t:Nat} (h:Operand.tmp t∈o.op.operands.toList):t∈o.looksAt ops:=by
 unfold Oper.looksAt
 rw [List.mem_append]
 left
 rw [List.mem_filterMap]
 exact ⟨_,h,rfl⟩

set_option maxHeartbeats 1000000 in
theorem zfU (j4:P.follows .mixedOrders=true) (hT:T.Fits P) {gs:List Nat} (hC:CS P gs C) (hg:rp C):DS P gs (mu P T C):=by
 intro rl id ops e0 e' h0 h' ρ0 a0 w0 Q ak di hG0 hs0 VS VI hQ
 unfold mu at ak
 split at ak
 case h_2=>cases ak
 rename_i ks ee hh dG
 split at ak
 case isFalse=>cases ak
 rename_i Az
 cases ak
 obtain ⟨E,H,V,nU,CH,hEn,wY,kU,htr⟩:=zqE ops.toList e0 e' h0 h' ks dG
 rw [Array.length_toList] at hEn wY
 have oR:∀ i o,ops[i]? = some o→eT P T C ops o (E i) (E (i+1)) (H i) (H (i+1)) (V i) (ks.getD i 2):=fun i o ho=>htr i o (by simpa using ho)
 have fL:∀ i,i < ops.size→∃ o,ops[i]? = some o:=fun i hi=>⟨_,Array.getElem?_eq_getElem hi⟩
 have cU:∀ i j,i≤j→j≤ops.size→bl (H i) (H j):=by
  intro i j dh
  induction dh with
  |refl=>intro _;exact .refl _
  |step dh ih =>
   rename_i k
   intro hj
   obtain ⟨o,ho⟩:=fL k (by omega)
   exact (ih (by omega)).trans ((oR k o ho).keeps hg)
 have gD:∀ i j,i≤j→j≤ops.size→(∀ k,i≤k→k < j→ks.getD k 2 % 3≠2)→∀ A,A < (H i).size→(H j).get A=(H i).get A:=by
  intro i j dh
  induction dh with
  |refl=>intro _ _ A _;rfl
  |step dh ih =>
   rename_i k
   intro hj hk A hA
   obtain ⟨o,ho⟩:=fL k (by omega)
   have h1:=(oR k o ho).same hg (hk k (by omega) (Nat.lt_succ_self _)) A (Nat.lt_of_lt_of_le hA (cU i k (by omega) (by omega)).size)
   exact h1.trans (ih (by omega) (fun q h2 h3=>hk q h2 (by omega)) A hA)
 have w6:∀ j,j < ops.size→Gu ops ks (lJ ops.toList []) j=true:=fun j hj=>List.all_eq_true.1 Az j (List.mem_range.2 hj)
 have mF:∀ (j:Nat) (o:Oper),ops[j]? = some o→∀ e∈o.after.toList,Region.binds .any e=true→e.on < j:=by
  intro j o ho e he hb
  have:=w6 j (Array.getElem?_eq_some_iff.1 ho).1
  simp only [Gu,ho,Bool.and_eq_true,List.all_eq_true] at this
  have h2:=this.1 e he
  simpa [hb] using h2
 have AU:∀ (i j:Nat) (oi oj:Oper),i < j→ops[i]? = some oi→ops[j]? = some oj→((lJ ops.toList []).getD j 0).testBit i=true∨(oi.apart ops oj=true∧oU (ks.getD i 2) (ks.getD j 2)=true):=by
  intro i j oi oj dh xr oO
  have:=w6 j (Array.getElem?_eq_some_iff.1 oO).1
  simp only [Gu,oO,Bool.and_eq_true,List.all_eq_true] at this
  have h2:=this.2 i (List.mem_range.2 dh)
  simpa [xr] using h2
 clear Az w6
 let dst:Nat→Option Tmp:=fun k=>(ops[k]?).bind (·.dst)
 refine wpIn_region_any j4 ?_
 have IV:∀ k,k≤ops.size→(E k).length=e0.length:=by
  intro k
  induction k with
  |zero=>intro _;rw [nU]
  |succ k ih =>
   intro hk
   obtain ⟨o,ho⟩:=fL k (by omega)
   rcases oR k o ho with ⟨_,_,_,_,h1,_⟩|⟨_,_,_,h1,_⟩ <;> rw [h1,OR,ih (by omega)]
 have Aq:∀ k o,ops[k]? = some o→E (k+1)=put (E k) (dst k) (V k):=by
  intro k o ho
  have hd:dst k=o.dst:=by simp [dst,ho]
  rw [hd]
  rcases oR k o ho with ⟨_,_,_,_,h1,_⟩|⟨_,h2,_,h1,_⟩
  ·exact h1
  ·rw [h1,h2]
 have fin:∀ (listed:Array Bool) (ρ:ct) (a:Act) (w:World),(∀ k,k < ops.size→listed.getD k false=true)→cd ρ (eS e0 dst V (fun k=>listed.getD k false) ops.size) a.tmps→a.defers=a0.defers →
  (∃ m,m≤ops.size∧bK ρ (H m) w∧(∀ k,k < m→ks.getD k 2 % 3=2→listed.getD k false=true)∧(m=ops.size∨(ks.getD m 2 % 3=2∧listed.getD m false=false)))→Fr ρ0 ρ h0 h' w0 w→Q .normal a w:=by
  intro listed ρ a w az kD rH rT cN
  obtain ⟨m,gH,jc,AK,Dj⟩:=rT
  have NH:m=ops.size:=by
   rcases Dj with h1|⟨_,h1⟩
   ·exact h1
   ·rcases Nat.lt_or_ge m ops.size with h2|h2
    ·rw [az m h2] at h1;cases h1
    ·omega
  subst NH
  rw [wY] at jc
  have heq:∀ k,k≤ops.size→eS e0 dst V (fun k=>listed.getD k false) k=E k:=by
   intro k
   induction k with
   |zero=>intro _;exact nU.symm
   |succ k ih =>
    intro hk
    obtain ⟨o,ho⟩:=fL k (by omega)
    simp only [eS]
    rw [if_pos (az k (by omega)),ih (by omega),Aq k o ho]
  rw [heq _ (Nat.le_refl _),hEn] at kD
  exact hQ ρ a w cN jc kD rH
 have u5:∀ (listed:Array Bool),listed.size=ops.size→Region.ready .any ops listed=[]→∀ k,k < ops.size→listed.getD k false=true:=by
  intro listed NG hr k
  induction k using Nat.strongRecOn with
  |_ k ih =>
   intro hk
   cases hb:listed.getD k false with
   |true=>rfl
   |false =>
    exfalso
    obtain ⟨o,ho⟩:=fL k hk
    have b8:k∈Region.ready .any ops listed:=by
     rw [mem_ready]
     refine ⟨?_,o,ho,fun e he Fw=>?_⟩
     ·have:k < listed.size:=by omega
      simp [this] at hb ⊢
      exact hb
     ·have aS:=mF k o ho e (by simpa using he) Fw
      exact ih e.on aS (by omega)
    rw [hr] at b8
    cases b8
 have main:∀ (fuel:Nat) (listed:Array Bool) (ρ:ct) (a:Act) (w:World),listed.size=ops.size→(List.range ops.size).countP (fun k => !listed.getD k false)≤fuel →
  (∀ (j:Nat) (o:Oper),ops[j]? = some o→listed.getD j false=true→∀ e∈o.after.toList,Region.binds .any e=true→listed.getD e.on false=true) →
  cd ρ (eS e0 dst V (fun k=>listed.getD k false) ops.size) a.tmps→a.defers=a0.defers →
  (∃ m,m≤ops.size∧bK ρ (H m) w∧(∀ k,k < m→ks.getD k 2 % 3=2→listed.getD k false=true)∧(m=ops.size∨(ks.getD m 2 % 3=2∧listed.getD m false=false))) →
  (∀ A L,ρ A=some L→ρ0 A=some L∨∃ j,j < ops.size∧listed.getD j false=true∧(H j).size≤A∧A < (H (j+1)).size) →
  Fr ρ0 ρ h0 h' w0 w→wpAnyIn (WR rl) 0 P .any ops Q fuel listed a w:=by
  intro fuel
  induction fuel with
  |zero =>
   intro listed ρ a w NG w7 lj kD rH rT w8 cN
   have az:∀ k,k < ops.size→listed.getD k false=true:=by
    intro k hk
    have h1:=List.countP_eq_zero.1 (Nat.le_zero.1 w7) k (List.mem_range.2 hk)
    simpa using h1
   refine ⟨?_,fin listed ρ a w az kD rH rT cN⟩
   apply List.eq_nil_iff_forall_not_mem.2
   intro i hi
   rw [mem_ready] at hi
   obtain ⟨h1,o,ho,_⟩:=hi
   have aS:i < ops.size:=(Array.getElem?_eq_some_iff.1 ho).1
   have h2:=az i aS
   have:i < listed.size:=by omega
   simp [this] at h1 h2
   rw [h2] at h1
   cases h1
  |succ fuel ih =>
   intro listed ρ a w NG w7 lj kD rH rT w8 cN
   refine ⟨fun hr=>fin listed ρ a w (u5 listed NG hr) kD rH rT cN,?_⟩
   intro i hi
   rw [mem_ready] at hi
   obtain ⟨qe,o,ho,ly⟩:=hi
   have qf:i < ops.size:=(Array.getElem?_eq_some_iff.1 ho).1
   have Fv:listed.getD i false=false:=by
    have:i < listed.size:=by omega
    simp [this] at qe ⊢
    exact qe
   have AV:∀ e∈o.after.toList,Region.binds .any e=true→listed.getD e.on false=true:=fun e he hb=>ly e (by simpa using he) hb
   have oB:∀ k,(listed.setIfInBounds i true).getD k false=(decide (k=i) || listed.getD k false):=by
    intro k
    by_cases hk:k=i
    ·subst hk
     have:k < listed.size:=by omega
     simp [this]
    ·simp [Array.getElem?_setIfInBounds_ne (Ne.symm hk),hk]
   have nu:∀ k ok,k < i→ops[k]? = some ok→listed.getD k false=false→ok.apart ops o=true∧oU (ks.getD k 2) (ks.getD i 2)=true:=by
    intro k ok qh iG hk
    rcases AU k i ok o qh iG ho with h1|h1
    ·have:=zna (S:=fun j=>listed.getD j false=true) mF lj i i o k (Nat.le_refl _) ho AV h1
     rw [hk] at this
     cases this
    ·exact h1
   have gX:∀ j oj,i < j→ops[j]? = some oj→listed.getD j false=true→o.apart ops oj=true∧oU (ks.getD i 2) (ks.getD j 2)=true:=by
    intro j oj dh oO hj
    rcases AU i j o oj dh ho oO with h1|h1
    ·have:=zna (S:=fun j=>listed.getD j false=true) mF lj j j oj i (Nat.le_refl _) oO (lj j oj oO hj) h1
     rw [Fv] at this
     cases this
    ·exact h1
   have AJ:∀ t,t∈o.looksAt ops→(eS e0 dst V (fun k=>listed.getD k false) ops.size).get t=(E i).get t:=by
    intro t ht
    have p1:∀ k,k≤i→(eS e0 dst V (fun k=>listed.getD k false) k).get t=(E k).get t:=by
     intro k
     induction k with
     |zero=>intro _;rw [nU];rfl
     |succ k lP =>
      intro hk
      obtain ⟨ok,iG⟩:=fL k (by omega)
      rw [Aq k ok iG]
      simp only [eS]
      split
      ·exact Yy (by rw [Es,IV k (by omega)]) (lP (by omega))
      ·rename_i kF
       rw [lP (by omega),Gc]
       intro hd
       have ld:=(Oper.apart_spec (nu k ok (by omega) iG (by simpa using kF)).1).1
       exact ld t (by simpa [dst,iG] using hd) ht
    have p2:∀ k,i≤k→k≤ops.size→(eS e0 dst V (fun k=>listed.getD k false) k).get t=(eS e0 dst V (fun k=>listed.getD k false) i).get t:=by
     intro k rL
     induction rL with
     |refl=>intro _;rfl
     |step rL lP =>
      rename_i k
      intro hk
      obtain ⟨ok,iG⟩:=fL k (by omega)
      simp only [eS]
      split
      ·rename_i kF
       rw [Gc,lP (by omega)]
       intro hd
       have aO:i≠k:=fun e=>by subst e;rw [Fv] at kF;cases kF
       have V7:i≤k:=rL
       have ld:=(Oper.apart_spec (gX k ok (by omega) iG kF).1).2.2
       exact ld t (by simpa [dst,iG] using hd) ht
      ·exact lP (by omega)
    rw [p2 _ (by omega) (Nat.le_refl _),p1 i (Nat.le_refl _)]
   have JS:∀ x∈o.op.operands.toList,aZ (eS e0 dst V (fun k=>listed.getD k false) ops.size) x=aZ (E i) x:=by
    intro x hx
    cases x with
    |tmp t=>exact AJ t (zo7 hx)
    |_=>rfl
   have Kb:kP ops o (eS e0 dst V (fun k=>listed.getD k false) ops.size)=kP ops o (E i):=by
    unfold kP
    cases V3:o.guard with
    |none=>rfl
    |some g =>
     obtain ⟨j,b⟩:=g
     simp only
     cases hdj:(ops[j]?).bind (·.dst) with
     |none=>rfl
     |some t =>
      simp only
      rw [AJ t (by unfold Oper.looksAt;rw [List.mem_append];right;simp [V3,hdj])]
   have Jw:∀ t,(eS e0 dst V (fun k=>(listed.setIfInBounds i true).getD k false) ops.size).get t=(put (eS e0 dst V (fun k=>listed.getD k false) ops.size) o.dst (V i)).get t:=by
    intro t
    have hdi:dst i=o.dst:=by simp [dst,ho]
    have p1:∀ k,k≤i→eS e0 dst V (fun k=>(listed.setIfInBounds i true).getD k false) k=eS e0 dst V (fun k=>listed.getD k false) k:=by
     intro k
     induction k with
     |zero=>intro _;rfl
     |succ k lP =>
      intro hk
      have qh:decide (k=i)=false:=by simp;omega
      cases kF:listed.getD k false with
      |true=>rw [MO (S:=fun k=>(listed.setIfInBounds i true).getD k false) (by show (listed.setIfInBounds i true).getD k false=true;rw [oB k,kF];simp),MO (S:=fun k=>listed.getD k false) kF,lP (by omega)]
      |false=>rw [GH (S:=fun k=>(listed.setIfInBounds i true).getD k false) (by show (listed.setIfInBounds i true).getD k false=false;rw [oB k,kF,qh];rfl),GH (S:=fun k=>listed.getD k false) kF,lP (by omega)]
    have p2:∀ k,i+1≤k→k≤ops.size→(eS e0 dst V (fun k=>(listed.setIfInBounds i true).getD k false) k).get t=(put (eS e0 dst V (fun k=>listed.getD k false) k) o.dst (V i)).get t:=by
     intro k rL
     induction rL with
     |refl =>
      intro _
      rw [MO (S:=fun k=>(listed.setIfInBounds i true).getD k false) (by show (listed.setIfInBounds i true).getD i false=true;rw [oB i];simp),p1 i (Nat.le_refl _),GH (S:=fun k=>listed.getD k false) Fv,hdi]
     |step rL lP =>
      rename_i k
      intro hk
      have V7:i+1≤k:=rL
      obtain ⟨ok,iG⟩:=fL k (by omega)
      have qh:decide (k=i)=false:=by simp;omega
      have xG:=lP (by omega)
      cases kF:listed.getD k false with
      |true =>
       rw [MO (S:=fun k=>(listed.setIfInBounds i true).getD k false) (by show (listed.setIfInBounds i true).getD k false=true;rw [oB k,kF];simp),MO (S:=fun k=>listed.getD k false) kF]
       have ld:=(Oper.apart_spec (gX k ok (by omega) iG kF).1).2.1
       have hdk:dst k=ok.dst:=by simp [dst,iG]
       have hlen:(eS e0 dst V (fun k=>(listed.setIfInBounds i true).getD k false) k).length=(eS e0 dst V (fun k=>listed.getD k false) k).length:=by rw [Es,Es]
       by_cases VH:o.dst=some t
       ·have aO:dst k≠some t:=by rw [hdk];exact fun e=>ld t VH e
        rw [Gc aO,xG]
        exact Yy (by rw [OR]) (Gc aO).symm
       ·rw [Gc VH] at xG
        rw [Gc VH]
        exact Yy hlen xG
      |false =>
       rw [GH (S:=fun k=>(listed.setIfInBounds i true).getD k false) (by show (listed.setIfInBounds i true).getD k false=false;rw [oB k,kF,qh];rfl),GH (S:=fun k=>listed.getD k false) kF]
       exact xG
    exact p2 _ (by omega) (Nat.le_refl _)
   have uw:(listed.setIfInBounds i true).size=ops.size:=by simp [NG]
   have oF:(List.range ops.size).countP (fun k => !(listed.setIfInBounds i true).getD k false)≤fuel:=by
    have:=zmt (p:=fun k => !listed.getD k false) (p':=fun k => !(listed.setIfInBounds i true).getD k false) (List.range ops.size)
     (fun k _ hk=>by rw [oB k] at hk;simp at hk ⊢;exact hk.2) ⟨i,List.mem_range.2 qf,by rw [Fv];rfl,by rw [oB i];simp⟩
    omega
   have lk:∀ (j:Nat) (oj:Oper),ops[j]? = some oj→(listed.setIfInBounds i true).getD j false=true→∀ e∈oj.after.toList,Region.binds .any e=true→(listed.setIfInBounds i true).getD e.on false=true:=by
    intro j oj oO hj e he hb
    rw [oB e.on]
    rw [oB j] at hj
    by_cases jN:j=i
    ·subst jN
     rw [ho] at oO
     cases oO
     rw [AV e he hb]
     simp
    ·have hj':listed.getD j false=true:=by simpa [jN] using hj
     rw [lj j oj oO hj' e he hb]
     simp
   have oJ:∀ (ρ':ct) (u:Value),(∀ A L,ρ A=some L→ρ' A=some L)→VR ρ' (V i) u→cd ρ' (eS e0 dst V (fun k=>(listed.setIfInBounds i true).getD k false) ops.size) (a.put o.dst u).tmps:=by
    intro ρ' u Jx hv
    have h1:=(kD.mono Jx).put hv o.dst
    exact ⟨by rw [Es,← h1.1,OR,Es],fun t=>by rw [Jw t];exact h1.2 t⟩
   have oI:∀ u,(a.put o.dst u).defers=a0.defers:=fun u=>by cases o.dst <;> exact rH
   obtain ⟨m,gH,jc,AK,Dj⟩:=rT
   /- an operation that looks at no memory -/
   have lB:ks.getD i 2 % 3≠2→∀ (ρ':ct) (w':World),bK ρ' (H m) w'→∃ m,m≤ops.size∧bK ρ' (H m) w'∧(∀ k,k < m→ks.getD k 2 % 3=2→(listed.setIfInBounds i true).getD k false=true)∧(m=ops.size∨(ks.getD m 2 % 3=2∧(listed.setIfInBounds i true).getD m false=false)):=by
    intro qM ρ' w' dp
    refine ⟨m,gH,dp,fun k h1 h2=>by rw [oB k,AK k h1 h2];simp,?_⟩
    rcases Dj with h1|⟨h1,h2⟩
    ·exact .inl h1
    ·refine .inr ⟨h1,?_⟩
     have:m≠i:=fun e=>by rw [e] at h1;exact qM h1
     rw [oB m,h2]
     simp [this]
   have jv:∀ (ρ':ct),(∀ A L,ρ' A=some L→ρ A=some L∨((H i).size≤A∧A < (H (i+1)).size)) →
    ∀ A L,ρ' A=some L→ρ0 A=some L∨∃ j,j < ops.size∧(listed.setIfInBounds i true).getD j false=true∧(H j).size≤A∧A < (H (j+1)).size:=by
    intro ρ' uQ A L hA
    rcases uQ A L hA with h1|h1
    ·rcases w8 A L h1 with h2|⟨j,h2,h3,h4⟩
     ·exact .inl h2
     ·exact .inr ⟨j,h2,by rw [oB j,h3];simp,h4⟩
    ·exact .inr ⟨i,qf,by rw [oB i];simp,h1⟩
   have nz:∀ A,(H i).size≤A→A < (H (i+1)).size→ρ A=none:=by
    intro A h1 h2
    cases hA:ρ A with
    |none=>rfl
    |some L =>
     exfalso
     rcases w8 A L hA with h3|⟨j,h3,h4,h5,h6⟩
     ·have h7:=(cU 0 i (by omega) (by omega)).size
      have h8:=(cU (i+1) ops.size (by omega) (Nat.le_refl _)).size
      rw [CH] at h7
      rw [wY] at h8
      rw [VS A (by omega) (by omega)] at h3
      cases h3
     ·have jN:j≠i:=fun e=>by subst e;rw [Fv] at h4;cases h4
      rcases Nat.lt_or_ge j i with aS|lr
      ·have:=(cU (j+1) i (by omega) (by omega)).size
       omega
      ·have:=(cU (i+1) j (by omega) (by omega)).size
       omega
   unfold wpOpIn
   simp only [ho]
   rw [zoa kD,Kb]
   rcases oR i o ho with ⟨hZ,h2,ln,Nw,_,hk⟩|⟨hZ,hv,Nw,_,hk⟩
   ·rw [if_pos hZ]
    have qO:jV ρ o:=(di o (by simpa using Array.mem_of_getElem? ho)).mono cN.grow
    have hG:=hG0.mono cN.grow
    have xd:∀ hx,gM P T C (eS e0 dst V (fun k=>listed.getD k false) ops.size) o hx=gM P T C (E i) o hx:=fun hx=>zmG hx JS
    by_cases hb:mR T o=true
    ·rw [YD hb] at hk
     have CX:=(YE hb ln).2 (H m)
     have kF:ks.getD i 2 % 3≠2:=by omega
     have uI:=F6 (h':=H m) hT hC hG jc kD qO (fun A h1 h2=>by omega) (by rw [xd];exact CX)
     refine uI.wp (F0 ln) fun ρ' u w' f1 s1 v1=>?_
     have gD:∀ A L,ρ' A=some L→ρ A=some L:=by
      intro A L hA
      cases hρ:ρ A with
      |some L1=>have:=f1.grow A L1 hρ;rw [hA] at this;exact this.symm
      |none=>have:=f1.fresh A L hA hρ;omega
     refine ih _ ρ' _ w' uw oF lk (oJ ρ' u f1.grow v1) (oI u) (lB kF ρ' w' s1) (jv ρ' fun A L hA=>.inl (gD A L hA)) ?_
     have k1:=cU m ops.size gH (Nat.le_refl _)
     have k2:=cU 0 m (by omega) gH
     rw [wY] at k1
     rw [CH] at k2
     exact cN.step f1 k1.low k1.size k2.size
    ·have kI:=cU i ops.size (by omega) (Nat.le_refl _)
     have NT:=cU (i+1) ops.size (by omega) (Nat.le_refl _)
     have NS:=cU 0 i (by omega) (by omega)
     rw [wY] at kI NT
     rw [CH] at NS
     have mg:(H (i+1)).size=h2.size:=by rw [Nw]
     have qN:h'.low≤h2.low:=by
      have h3:=NT.low
      rw [Nw] at h3
      exact Nat.le_trans h3 (Nat.min_le_right _ _)
     have ud:∀ A,(H (i+1)).get A=h2.get A:=fun A=>by rw [Nw];rfl
     by_cases ea:(H i).size≤h2.low
     ·/- it turns nothing that is there -/
      obtain ⟨nA,qM,uq⟩:=Y1 (T:=T) (e:=E i) hb ea
      rw [← hk] at nA qM uq
      have rM:i < m:=by
       rcases Dj with h3|⟨h3,h4⟩
       ·omega
       ·rcases Nat.lt_or_ge i m with h5|h5
        ·exact h5
        ·exfalso
         have aO:m≠i:=fun e=>by rw [e] at h3;exact nA h3
         obtain ⟨om,JR⟩:=fL m (by omega)
         exact qM (Pc h3 (nu m om (by omega) JR h4).2)
      have qS:∀ k,i≤k→k < m→ks.getD k 2 % 3=2→5≤ks.getD k 2∧((ks.getD i 2 % 3=0∧3≤ks.getD i 2∧ks.getD i 2+2≠ks.getD k 2)∨(ks.getD i 2 % 3=1∧3≤ks.getD i 2∧ks.getD k 2+2≤ks.getD i 2)):=by
       intro k h3 h4 h5
       have aO:k≠i:=fun e=>by rw [e] at h5;exact nA h5
       have h6:=AK k h4 h5
       obtain ⟨ok,iG⟩:=fL k (by omega)
       rcases ztK h5 (gX k ok (by omega) iG h6).2 with h8|h8
       ·exact (qM h8).elim
       ·exact h8
      have Jh:∀ (B j:Nat),i≤j→j≤m→B < (H j).size→(∀ k,i≤k→k < m→ks.getD k 2 % 3=2→5+3*B≠ks.getD k 2)→(H m).get B=(H j).get B:=by
       intro B j h3 h4 h5 h6
       have hx:∀ d,j+d≤m→(H (j+d)).get B=(H j).get B:=by
        intro d
        induction d with
        |zero=>intro _;rfl
        |succ d Kf =>
         intro hd
         obtain ⟨ok,iG⟩:=fL (j+d) (by omega)
         have h7:=Kf (by omega)
         have h8:B < (H (j+d)).size:=Nat.lt_of_lt_of_le h5 (cU j (j+d) (by omega) (by omega)).size
         rw [← h7]
         by_cases h9:ks.getD (j+d) 2 % 3=2
         ·exact (oR (j+d) ok iG).other h9 (qS (j+d) (by omega) (by omega) h9).1 B (h6 (j+d) (by omega) (by omega) h9)
         ·exact (oR (j+d) ok iG).same hg h9 B h8
       have h7:=hx (m - j) (by omega)
       rwa [show j+(m - j)=m by omega] at h7
      by_cases mI:∃ t a x,o.op=.load t a∧aZ (E i) a=.pointer (some x)∧ks.getD i 2=3+3*x.block
      ·obtain ⟨t,a',x,aL,hx,rN⟩:=mI
       have CX:gM P T C (E i) o (H m)=some (V i,H m):=by
        unfold gM at ln ⊢
        simp only [aL,hx,Option.map_eq_some_iff,Prod.mk.injEq] at ln ⊢
        obtain ⟨r,hr,h3,_⟩:=ln
        refine ⟨r,?_,h3,trivial⟩
        have aS:x.block < (H i).size:=zwM hr
        rw [zo5 (h:={ H i with low:=(H i).size }) (by rw [Heap.kR];exact Jh x.block i (Nat.le_refl _) (by omega) aS (fun k h4 h5 h6=>by have:=(qS k h4 h5 h6).2;omega))]
        exact hr
       have uI:=F6 (h':=H m) hT hC hG jc kD qO (fun A h1 h2=>by omega) (by rw [xd];exact CX)
       refine uI.wp (F0 ln) fun ρ' u w' f1 s1 v1=>?_
       have gD:∀ A L,ρ' A=some L→ρ A=some L:=by
        intro A L hA
        cases hρ:ρ A with
        |some L1=>have:=f1.grow A L1 hρ;rw [hA] at this;exact this.symm
        |none=>have:=f1.fresh A L hA hρ;omega
       refine ih _ ρ' _ w' uw oF lk (oJ ρ' u f1.grow v1) (oI u) (lB nA ρ' w' s1) (jv ρ' fun A L hA=>.inl (gD A L hA)) ?_
       have k1:=cU m ops.size gH (Nat.le_refl _)
       have k2:=cU 0 m (by omega) gH
       rw [wY] at k1
       rw [CH] at k2
       exact cN.step f1 k1.low k1.size k2.size
      have Wm:∃ hx CC:Heap,hx.size=(H i).size∧bK ρ hx w∧gM P T C (E i) o hx=some (V i,CC)∧CC.size=h2.size∧h'.low≤CC.low∧(H i).size≤CC.low∧∀ A,(H i).size≤A→A < h2.size→(H m).get A=CC.get A:=by
       rcases uq with h3|h3|⟨⟨t,n,ps,aL⟩,rN⟩
       ·have oN:∀ k,i≤k→k < m→ks.getD k 2 % 3≠2:=by
         intro k h4 h5 h6
         have:=(qS k h4 h5 h6).2
         omega
        have hgI:∀ A,A < (H i).size→(H m).get A=(H i).get A:=gD i m (by omega) gH oN
        have C8:∀ A,A < (H (i+1)).size→(H m).get A=(H (i+1)).get A:=gD (i+1) m (by omega) gH (fun k h3 h4=>oN k (by omega) h4)
        refine ⟨{ H i with low:=(H i).size },h2,rfl,?_,ln,rfl,qN,ea,fun A h4 h5=>by rw [C8 A (by omega),ud A]⟩
        refine jc.swap fun A L hA=>?_
        rw [Heap.kR]
        rcases Nat.lt_or_ge A (H i).size with h3|h3
        ·exact .inl (hgI A h3).symm
        ·right
         unfold Heap.get
         rw [if_neg (by omega)]
       ·exact (mI h3).elim
       ·have alD:=(cU i m (by omega) gH).size
        have CY:=ln
        unfold gM at CY
        simp only [aL] at CY
        obtain ⟨b,nW,CP⟩:=zij (h1:=(⟨(H i).size,(H m).tr,(H i).size⟩:Heap)) CY rfl
        have uv:h2.low=(H i).size:=by rw [nW];rfl
        have xB:h2.size=(H i).size+1:=by rw [nW];rfl
        refine ⟨⟨(H i).size,(H m).tr,(H i).size⟩,_,rfl,?_,by unfold gM;simp only [aL];exact CP,by rw [xB];rfl,by rw [uv] at qN;exact qN,Nat.le_refl _,fun A h4 h5=>?_⟩
        ·refine jc.swap fun A L hA=>?_
         unfold Heap.get
         rcases Nat.lt_or_ge A (H i).size with h3|h3
         ·left
          rw [if_pos h3,if_pos (by omega)]
         ·right
          rw [if_neg (show ¬ A < (H i).size by omega)]
        ·have hA:A=(H i).size:=by omega
         subst hA
         rw [Jh _ (i+1) (by omega) (by omega) (by rw [mg,xB];omega) (fun k h6 h7 h8=>by have:=(qS k h6 h7 h8).2;omega),ud,nW,Heap.bL,Heap.bL,if_pos rfl,if_pos rfl]
      obtain ⟨hx,CC,mL,uK,VP,h2s,uv,V4,hN⟩:=Wm
      have uI:=F6 (h':=CC) hT hC hG uK kD qO (fun A h3 h4=>nz A (by omega) (by omega)) (by rw [xd];exact VP)
      refine uI.wp (F0 ln) fun ρ' u w' f1 s1 v1=>?_
      have jz:∀ A L,ρ' A=some L→ρ A=none→(H i).size≤A∧A < h2.size∧w.heap.size≤L.b:=by
       intro A L hA hn
       obtain ⟨h3,h4,h5⟩:=f1.fresh A L hA hn
       refine ⟨by omega,by omega,?_⟩
       rcases h5 with h5|⟨A0,L0,h6,_,h7,h8⟩
       ·exact h5
       ·rw [nz A0 (by omega) (by omega)] at h6
        cases h6
      have DO:∀ b,b < w.heap.size→w'.heap[b]? = w.heap[b]? := by
       intro b kj
       refine f1.keep b kj fun A L hA _=>?_
       rcases Nat.lt_or_ge A (H i).size with h3|h3
       ·left;omega
       ·right
        rcases Nat.lt_or_ge A h2.size with h4|h4
        ·rw [nz A h3 (by omega)] at hA;cases hA
        ·omega
      have uJ:bK ρ' (H m) w':=by
       refine ⟨fun A L hA=>?_,fun A A' L L' hA dR aO kS=>?_⟩
       ·cases hρ:ρ A with
        |none =>
         obtain ⟨h3,h4,_⟩:=jz A L hA hρ
         rw [hN A h3 h4]
         exact s1.jX A L hA
        |some L1 =>
         have e:L1=L:=by have:=f1.grow A L1 hρ;rw [hA] at this;exact (Option.some.inj this).symm
         subst e
         exact (jc.jX A L1 hρ).keep f1.grow f1.size fun _=>DO L1.b (jc.lt hρ)
       ·cases hρ:ρ A with
        |none =>
         obtain ⟨h3,h4,h5⟩:=jz A L hA hρ
         cases uQ:ρ A' with
         |none =>
          obtain ⟨h6,h7,h8⟩:=jz A' L' dR uQ
          have hx:=s1.inj A A' L L' hA dR aO kS
          unfold live lA at hx ⊢
          rw [hN A h3 h4,hN A' h6 h7]
          exact hx
         |some L1 =>
          have e:L1=L':=by have:=f1.grow A' L1 uQ;rw [dR] at this;exact (Option.some.inj this).symm
          subst e
          have:=jc.lt uQ
          omega
        |some L1 =>
         have e:L1=L:=by have:=f1.grow A L1 hρ;rw [hA] at this;exact (Option.some.inj this).symm
         subst e
         cases uQ:ρ A' with
         |none =>
          obtain ⟨h6,h7,h8⟩:=jz A' L' dR uQ
          have:=jc.lt hρ
          omega
         |some L2 =>
          have e:L2=L':=by have:=f1.grow A' L2 uQ;rw [dR] at this;exact (Option.some.inj this).symm
          subst e
          exact jc.inj A A' L1 L2 hρ uQ aO kS
      refine ih _ ρ' _ w' uw oF lk (oJ ρ' u f1.grow v1) (oI u) ?_ (jv ρ' fun A L hA=>?_) (cN.step f1 uv (by have:=NT.size;omega) (by rw [mL];exact NS.size))
      ·refine ⟨m,gH,uJ,fun k h3 h4=>by rw [oB k,AK k h3 h4];simp,?_⟩
       rcases Dj with h3|⟨h3,h4⟩
       ·exact .inl h3
       ·refine .inr ⟨h3,?_⟩
        rw [oB m,h4,show decide (m=i)=false by simp;omega]
        rfl
      ·cases hρ:ρ A with
       |none=>right;have:=jz A L hA hρ;omega
       |some L1=>left;have:=f1.grow A L1 hρ;rw [hA] at this;rw [this]
     ·obtain ⟨nA,_⟩:=OO (T:=T) (e:=E i) hb ea
      rw [← hk] at nA
      /- it may turn what is there: it stands between all others -/
      have hmi:m=i:=by
       rcases Nat.lt_trichotomy m i with h3|h3|h3
       ·exfalso
        rcases Dj with h4|⟨h4,h5⟩
        ·omega
        ·obtain ⟨om,JR⟩:=fL m (by omega)
         have:=Pc h4 (nu m om h3 JR h5).2
         omega
       ·exact h3
       ·have:=AK i h3 nA
        rw [Fv] at this
        cases this
      subst hmi
      have uK:bK ρ { H m with low:=(H m).size } w:=jc.swap fun A L _=>.inl rfl
      have uI:=F6 (h':=h2) hT hC hG uK kD qO (fun A h3 h4=>nz A h3 (by omega)) (by rw [xd];exact ln)
      refine uI.wp (F0 ln) fun ρ' u w' f1 s1 v1=>?_
      /- the next that may turn something -/
      have JM:∃ m',m+1≤m'∧m'≤ops.size∧(∀ k,m+1≤k→k < m'→ks.getD k 2 % 3≠2)∧(m'=ops.size∨ks.getD m' 2 % 3=2):=by
       have hx:∀ d,d≤ops.size - (m+1)→(∀ k,m+1≤k→k < m+1+d→ks.getD k 2 % 3≠2)∨∃ m',m+1≤m'∧m'≤ops.size∧(∀ k,m+1≤k→k < m'→ks.getD k 2 % 3≠2)∧(m'=ops.size∨ks.getD m' 2 % 3=2):=by
        intro d
        induction d with
        |zero=>intro _;left;intro k h3 h4;omega
        |succ d Kf =>
         intro hd
         rcases Kf (by omega) with h3|h3
         ·by_cases h4:ks.getD (m+1+d) 2 % 3=2
          ·exact .inr ⟨m+1+d,by omega,by omega,h3,.inr h4⟩
          ·left
           intro k h5 h6
           by_cases h7:k=m+1+d
           ·rw [h7];exact h4
           ·exact h3 k h5 (by omega)
         ·exact .inr h3
       rcases hx (ops.size - (m+1)) (Nat.le_refl _) with h3|h3
       ·exact ⟨ops.size,by omega,Nat.le_refl _,fun k h4 h5=>h3 k h4 (by omega),.inl rfl⟩
       ·exact h3
      obtain ⟨m',Wk,Di,JH,Wl⟩:=JM
      have C8:∀ A,A < (H (m+1)).size→(H m').get A=(H (m+1)).get A:=gD (m+1) m' Wk Di JH
      have w9:∀ A L,ρ A=some L→A < h2.size∨(ρ0 A=some L∧h'.size≤A):=by
       intro A L hA
       rcases w8 A L hA with h3|⟨j,h3,h4,h5,h6⟩
       ·rcases Nat.lt_or_ge A h2.size with h7|h7
        ·exact .inl h7
        ·rcases Nat.lt_or_ge A h'.size with h8|h8
         ·have h9:=NS.size
          have h10:=(cU m (m+1) (by omega) (by omega)).size
          rw [VS A (by omega) h8] at h3
          cases h3
         ·exact .inr ⟨h3,h8⟩
       ·left
        rcases Nat.lt_or_ge j (m+1) with h7|h7
        ·have:=(cU (j+1) (m+1) (by omega) (by omega)).size
         omega
        ·exfalso
         obtain ⟨oj,oO⟩:=fL j h3
         have h9:ks.getD j 2=0:=Pc nA (gX j oj (by omega) oO h4).2
         have:=((oR j oj oO).still h9).1
         omega
      have uJ:bK ρ' (H m') w':=by
       refine s1.swap fun A L hA=>?_
       have dR:A < h2.size∨h'.size≤A:=by
        cases hρ:ρ A with
        |none=>left;exact (f1.fresh A L hA hρ).2.1
        |some L1 =>
         rcases w9 A L1 hρ with h3|h3
         ·exact .inl h3
         ·exact .inr h3.2
       rcases dR with h3|h3
       ·left
        rw [C8 A (by omega),ud A]
       ·right
        have h4:=(cU m' ops.size Di (Nat.le_refl _)).size
        rw [wY] at h4
        unfold Heap.get
        rw [if_neg (by omega)]
      refine ih _ ρ' _ w' uw oF lk (oJ ρ' u f1.grow v1) (oI u) ⟨m',Di,uJ,?_,?_⟩ (jv ρ' fun A L hA=>?_) (cN.step f1 qN (by have:=NT.size;omega) NS.size)
      ·intro k h3 h4
       rw [oB k]
       rcases Nat.lt_or_ge k (m+1) with h5|h5
       ·by_cases h6:k=m
        ·simp [h6]
        ·rw [AK k (by omega) h4];simp
       ·exact (JH k h5 h3 h4).elim
      ·rcases Wl with h3|h3
       ·exact .inl h3
       ·rcases Nat.lt_or_ge m' ops.size with h4|h4
        ·refine .inr ⟨h3,?_⟩
         rw [oB m',show decide (m'=m)=false by simp;omega,Bool.false_or]
         cases kj:listed.getD m' false with
         |false=>rfl
         |true =>
          exfalso
          obtain ⟨om,JR⟩:=fL m' h4
          have:=Pc nA (gX m' om (by omega) JR kj).2
          omega
        ·exact .inl (by omega)
      ·cases hρ:ρ A with
       |none =>
        right
        obtain ⟨h3,h4,_⟩:=f1.fresh A L hA hρ
        have vK:(H m).size≤A:=h3
        omega
       |some L1=>left;have:=f1.grow A L1 hρ;rw [hA] at this;rw [this]
   ·rw [if_neg (by rw [hZ];simp)]
    refine ⟨fun _ _=>trivial,?_⟩
    have hu:VR ρ (V i) undef:=by rw [hv];exact .undef ρ
    exact ih _ ρ _ w uw oF lk (oJ ρ undef (fun _ _ h=>h) hu) (oI undef) (lB (by omega) ρ w jc) (jv ρ fun A L hA=>.inl hA) cN
 have qM:=cU 0 ops.size (by omega) (Nat.le_refl _)
 rw [CH,wY] at qM
 have qb:∀ k,(Array.replicate ops.size false).getD k false=false:=by
  intro k
  rcases Nat.lt_or_ge k ops.size with h1|h1 <;> simp [h1]
 have oM:∀ k,eS e0 dst V (fun k=>(Array.replicate ops.size false).getD k false) k=e0:=by
  intro k
  induction k with
  |zero=>rfl
  |succ k ih=>rw [GH (S:=fun k=>(Array.replicate ops.size false).getD k false) (qb k),ih]
 refine main ops.size _ ρ0 a0 _ (by simp) (by have:=List.countP_le_length (p:=fun k => !(Array.replicate ops.size false).getD k false) (l:=List.range ops.size);simpa using this) ?_ ?_ rfl ?_ ?_ ?_
 ·intro j o _ hj
  rw [qb j] at hj
  cases hj
 ·rw [oM];exact VI
 ·/- the first that may turn something -/
  have C1:∃ m,m≤ops.size∧(∀ k,k < m→ks.getD k 2 % 3≠2)∧(m=ops.size∨ks.getD m 2 % 3=2):=by
   have hx:∀ d,d≤ops.size→(∀ k,k < d→ks.getD k 2 % 3≠2)∨∃ m,m≤ops.size∧(∀ k,k < m→ks.getD k 2 % 3≠2)∧(m=ops.size∨ks.getD m 2 % 3=2):=by
    intro d
    induction d with
    |zero=>intro _;left;intro k h4;omega
    |succ d Kf =>
     intro hd
     rcases Kf (by omega) with h3|h3
     ·by_cases h4:ks.getD d 2 % 3=2
      ·exact .inr ⟨d,by omega,h3,.inr h4⟩
      ·left
       intro k h6
       by_cases h7:k=d
       ·rw [h7];exact h4
       ·exact h3 k (by omega)
     ·exact .inr h3
   rcases hx ops.size (Nat.le_refl _) with h3|h3
   ·exact ⟨ops.size,Nat.le_refl _,h3,.inl rfl⟩
   ·exact h3
  obtain ⟨m,gH,jc,AK⟩:=C1
  refine ⟨m,gH,?_,fun k h1 h2=>(jc k h1 h2).elim,?_⟩
  ·have xz:bK ρ0 h0 { w0 with drawn:=w0.drawn+1 }:=hs0.same rfl
   refine xz.swap fun A L hA=>?_
   rcases Nat.lt_or_ge A h0.size with h1|h1
   ·left
    have:=gD 0 m (by omega) gH (fun k _ h3=>jc k h3) A (by rw [CH];exact h1)
    rw [this,CH]
   ·rcases Nat.lt_or_ge A h'.size with h2|h2
    ·rw [VS A h1 h2] at hA;cases hA
    ·right
     have h4:=(cU m ops.size gH (Nat.le_refl _)).size
     rw [wY] at h4
     unfold Heap.get
     rw [if_neg (by omega)]
  ·rcases AK with h1|h1
   ·exact .inl h1
   ·exact .inr ⟨h1,qb m⟩
 ·intro A L hA;exact .inl hA
 ·exact ⟨fun _ _ h=>h,fun A L h1 h2=>(by rw [h1] at h2;cases h2),rfl,rfl,rfl,Nat.le_refl _,qM.size,qM.low,fun _ _ _=>rfl,qM.get⟩
end
end Go.Am
namespace Go.Am
open Go.RowKit

abbrev Ov:=FuncId→Option (List Value→Heap→Option (Value × Heap))

def eF:Env→List Tmp→List Value→Env
 |e,t::ts,v::vs=>eF (e.set t v) ts vs
 |e,_,_=>e
def we (A:Nat) (jump:Option Code) (h:Heap):Option (Value × Heap) :=
 match h.get A with
 |some (.loop env ps assign body _ _)=>some (.bool jump.isNone,h.set A (.loop env ps assign body (if jump.isNone then .ready else .done) jump))
 |_=>none
def BF (E:Code→Env→Heap→Option (Ex × Env × Heap)) (A:Nat) (args:List Value) (h:Heap):Option (Value × Heap) :=
 match h.get A with
 |some (.loop env ps assign body _ _) =>
  if args.length=ps.length then
   match E assign (eF env ps args) h with
   |some (.normal,e1,h1)=>match h1.get A with
    |some (.loop ni xU m6 k5 .ready ic) =>
     (match E body e1 (h1.set A (.loop ni xU m6 k5 .busy ic)) with
     |some (.normal,_,h2)=>we A none h2
     |some (.ret,_,h2)=>we A (some .ret) h2
     |some (.exit id,_,h2)=>we A (some (.exit id)) h2
     |none=>none)
    |_=>none
   |_=>none
  else none
 |_=>none

/-! ### A function that defers one call -/
def zoy (d:Oper):Option Tmp:=match d.op with
 | .defer ⟨.value (.tmp t),args,_⟩=>if args.isEmpty && d.guard.isNone && d.dst.isNone then some t else none
 |_=>none
def vy:Code→Option (List Code × Oper × Tmp × Code)
 | .seq (.region id ops false) b=>(match ops.toList with
  | [m,d]=>(match zoy d with
   |some t=>if m.guard.isNone then some ([],m,t,b) else (vy b).map fun (pre,m,t,r)=>(.region id ops false::pre,m,t,r)
   |none=>(vy b).map fun (pre,m,t,r)=>(.region id ops false::pre,m,t,r))
  |_=>(vy b).map fun (pre,m,t,r)=>(.region id ops false::pre,m,t,r))
 | .seq a b=>(vy b).map fun (pre,m,t,r)=>(a::pre,m,t,r)
 |_=>none
def si (E:Code→Env→Heap→Option (Ex × Env × Heap)):List Code→Env→Heap→Option (Env × Heap)
 | [],e,h=>some (e,h)
 |c::cs,e,h=>match E c e h with
  |some (.normal,e',h')=>si E cs e' h'
  |_=>none
section
variable (P:Program) (T:bD)
def qv (E:Code→Env→Heap→Option (Ex × Env × Heap)) (fn:Func) (g:Value) (e3:Env) (h3:Heap):Option (Value × Heap) :=
 match g with
 | .func (.func g) fi ca=>(T.fn g).bind fun fg=>fg.body.bind fun cg=>if jL cg then
  (match E cg ((fi.toList++ca.toList)++List.replicate (fg.ntmps - (fi.toList++ca.toList).length) undef) h3 with
  |some (.ret,e4,h4)=>(lF T fg e4 h4).bind fun _=>(lF T fn e3 h4).map fun v=>(v,h4)
  |some (.normal,e4,h4)=>(lF T fg e4 h4).bind fun _=>(lF T fn e3 h4).map fun v=>(v,h4)
  |_=>none)
  else none
 |_=>none
def zU (E:Code→Env→Heap→Option (Ex × Env × Heap)) (C:Fn→List Value→Heap→Option (Value × Heap)) (fn:Func) (c:Code) (e:Env) (h:Heap):Option (Value × Heap) :=
 (vy c).bind fun (pre,m,t,rest)=>if pre.all jL && jL rest then
  (si E pre e h).bind fun (e1,h1)=>(gM P T C e1 m h1).bind fun (v,h2) =>
   match E rest (put e1 m.dst v) h2 with
   |some (.ret,e3,h3)=>qv T E fn ((put e1 m.dst v).get t) e3 h3
   |some (.normal,e3,h3)=>qv T E fn ((put e1 m.dst v).get t) e3 h3
   |_=>none
 else none
end

def call (P:Program) (T:bD) (ov:Ov):Nat→Fn→List Value→Heap→Option (Value × Heap)
 |0,_,_,_=>none
 |n+1,.func f,args,h =>
  match ov f with
  |some g=>g args h
  |none =>
   (T.fn f).bind fun fn=>fn.body.bind fun c =>
   if T.Cu f then zU P T (dx P T (call P T ov n) (mu P T (call P T ov n)) none n) (call P T ov n) fn c (args++List.replicate (fn.ntmps - args.length) undef) h else
   match dx P T (call P T ov n) (mu P T (call P T ov n)) none n c (args++List.replicate (fn.ntmps - args.length) undef) h with
   |some (.ret,e,h')=>(lF T fn e h').map fun v=>(v,h')
   |some (.normal,e,h')=>(lF T fn e h').map fun v=>(v,h')
   |_=>none
 |n+1,.yield A,args,h=>BF (dx P T (call P T ov n) (mu P T (call P T ov n)) (some A) n) A args h
 |_,_,_,_=>none

def Ab (P:Program) (gs:List Nat) (ov:Ov):Prop :=
 ∀ f g,ov f=some g→∀ args h v h',g args h=some (v,h')→bl h h'∧∀ ρ w (aF:Array Value),cL gs ρ→bK ρ h w→eY ρ h h'→cu ρ args aF.toList→X7 P ρ h h' w v f aF

section
variable {P:Program} {T:bD} {ov:Ov}

theorem zjS {C:Fn→List Value→Heap→Option (Value × Heap)} (hg:rp C) {ops:Array Oper} (l:List Oper) (e e':Env) (h h':Heap) (ks:List Nat) (ak:pD P T C ops l e h=some (ks,e',h')):bl h h':=by
 induction l generalizing e h ks with
 |nil=>simp only [pD,Option.some.injEq,Prod.mk.injEq] at ak;obtain ⟨_,_,rfl⟩:=ak;exact .refl _
 |cons o l ih =>
  simp only [pD] at ak
  split at ak
  ·split at ak
   ·rename_i v h2 hr
    simp only [Option.map_eq_some_iff,Prod.exists,Prod.mk.injEq] at ak
    obtain ⟨fF,x1,x2,bo,_,rfl,rfl⟩:=ak
    have hk:=Eg hg hr
    refine bl.trans ?_ (ih _ _ _ bo)
    exact ⟨hk.size,Nat.min_le_left _ _,fun A h3 h4=>hk.get A h3 (Nat.lt_of_lt_of_le h4 (Nat.min_le_right _ _))⟩
   ·cases ak
  ·simp only [Option.map_eq_some_iff,Prod.exists,Prod.mk.injEq] at ak
   obtain ⟨fF,x1,x2,bo,_,rfl,rfl⟩:=ak
   exact ih _ _ _ bo

theorem Ei {C:Fn→List Value→Heap→Option (Value × Heap)} (hg:rp C):zsD (mu P T C):=by
 intro ops e h e' h' ak
 unfold mu at ak
 split at ak
 ·rename_i hr
  split at ak
  ·cases ak;exact zjS hg _ _ _ _ _ _ hr
  ·cases ak
 ·cases ak

theorem Oi {A:Nat} {jump:Option Code} {h h':Heap} {v:Value} (ak:we A jump h=some (v,h')):bl h h':=by
 unfold we at ak
 split at ak
 ·rename_i hg;cases ak;exact .set _ (Heap.bz hg)
 ·cases ak
theorem znG {E:Code→Env→Heap→Option (Ex × Env × Heap)} (hE:∀ c e h x e' h',E c e h=some (x,e',h')→bl h h') {A:Nat} {args:List Value} {h h':Heap} {v:Value} (ak:BF E A args h=some (v,h')):bl h h':=by
 unfold BF at ak
 split at ak
 ·split at ak
  ·split at ak
   ·rename_i h1 uG
    split at ak
    ·rename_i AE
     have hk:∀ b,bl h (h1.set A b):=fun b=>(hE _ _ _ _ _ _ uG).trans (bl.set b (Heap.bz AE))
     split at ak
     ·rename_i hU;exact ((hk _).trans (hE _ _ _ _ _ _ hU)).trans (Oi ak)
     ·rename_i hU;exact ((hk _).trans (hE _ _ _ _ _ _ hU)).trans (Oi ak)
     ·rename_i hU;exact ((hk _).trans (hE _ _ _ _ _ _ hU)).trans (Oi ak)
     ·cases ak
    ·cases ak
   ·cases ak
  ·cases ak
 ·cases ak

theorem OB {E:Code→Env→Heap→Option (Ex × Env × Heap)} (hE:∀ c e h x e' h',E c e h=some (x,e',h')→bl h h'):∀ (pre:List Code) (e e':Env) (h h':Heap),si E pre e h=some (e',h')→bl h h'
 | [],e,e',h,h',ak=>by simp only [si,Option.some.injEq,Prod.mk.injEq] at ak;obtain ⟨_,rfl⟩:=ak;exact .refl _
 |c::cs,e,e',h,h',ak=>by
  simp only [si] at ak
  split at ak
  ·rename_i hr
   exact (hE _ _ _ _ _ _ hr).trans (OB hE cs _ _ _ _ ak)
  ·cases ak
theorem Eh {E:Code→Env→Heap→Option (Ex × Env × Heap)} (hE:∀ c e h x e' h',E c e h=some (x,e',h')→bl h h') {fn:Func} {g v:Value} {e3:Env} {h3 h':Heap} (ak:qv T E fn g e3 h3=some (v,h')):bl h3 h':=by
 unfold qv at ak
 split at ak
 ·simp only [Option.bind_eq_some_iff] at ak
  obtain ⟨fg,_,cg,_,ak⟩:=ak
  split at ak
  ·split at ak
   ·rename_i hr
    simp only [Option.bind_eq_some_iff,Option.map_eq_some_iff,Prod.mk.injEq] at ak
    obtain ⟨_,_,_,_,_,rfl⟩:=ak
    exact hE _ _ _ _ _ _ hr
   ·rename_i hr
    simp only [Option.bind_eq_some_iff,Option.map_eq_some_iff,Prod.mk.injEq] at ak
    obtain ⟨_,_,_,_,_,rfl⟩:=ak
    exact hE _ _ _ _ _ _ hr
   ·cases ak
  ·cases ak
 ·cases ak
theorem zmv {C:Fn→List Value→Heap→Option (Value × Heap)} (hC:rp C) {E:Code→Env→Heap→Option (Ex × Env × Heap)} (hE:∀ c e h x e' h',E c e h=some (x,e',h')→bl h h') {fn:Func} {c:Code} {e:Env} {v:Value} {h h':Heap} (ak:zU P T E C fn c e h=some (v,h')):bl h h':=by
 unfold zU at ak
 simp only [Option.bind_eq_some_iff,Prod.exists] at ak
 obtain ⟨pre,m,t,rest,_,ak⟩:=ak
 split at ak
 ·simp only [Option.bind_eq_some_iff,Prod.exists] at ak
  obtain ⟨e1,h1,hp,v1,h2,ho,ak⟩:=ak
  split at ak
  ·rename_i hr
   exact (((OB hE _ _ _ _ _ hp).trans (Eg hC ho)).trans (hE _ _ _ _ _ _ hr)).trans (Eh hE ak)
  ·rename_i hr
   exact (((OB hE _ _ _ _ _ hp).trans (Eg hC ho)).trans (hE _ _ _ _ _ _ hr)).trans (Eh hE ak)
  ·cases ak
 ·cases ak
theorem zkh {gs:List Nat} (nY:Ab P gs ov):∀ n,rp (call P T ov n)
 |0=>by intro f args h v h' ak;simp [call] at ak
 |n+1=>by
  intro f args h v h' ak
  have ih:=zkh nY n
  cases f with
  |func f =>
   simp only [call] at ak
   split at ak
   ·rename_i g hg
    exact (nY f g hg args h v h' ak).1
   ·simp only [Option.bind_eq_some_iff] at ak
    obtain ⟨fn,_,c,_,ak⟩:=ak
    split at ak
    ·exact zmv ih (fun c e h x e' h' hr=>Ej ih (Ei ih) _ _ _ _ _ _ _ _ hr) ak
    split at ak
    ·rename_i hr
     simp only [Option.map_eq_some_iff,Prod.mk.injEq] at ak
     obtain ⟨_,_,_,rfl⟩:=ak
     exact Ej ih (Ei ih) _ _ _ _ _ _ _ _ hr
    ·rename_i hr
     simp only [Option.map_eq_some_iff,Prod.mk.injEq] at ak
     obtain ⟨_,_,_,rfl⟩:=ak
     exact Ej ih (Ei ih) _ _ _ _ _ _ _ _ hr
    ·cases ak
  |yield A =>
   simp only [call] at ak
   exact znG (fun c e h x e' h' hr=>Ej ih (Ei ih) _ _ _ _ _ _ _ _ hr) ak
  |_=>simp [call] at ak

theorem cd.enter {ρ:ct} {args:List Value} {aF:Array Value} (hv:cu ρ args aF.toList) (n:Nat):cd ρ (args++List.replicate (n - args.length) undef) (aF++Array.replicate (n - aF.size) undef):=by
 have hl:args.length=aF.size:=by simpa using hv.1
 refine ⟨by simp [hl],fun i=>?_⟩
 rw [Env.get_eq]
 rcases Nat.lt_or_ge i args.length with h1|h1
 ·rw [List.getElem?_append_left h1]
  have hx:args[i]? = some args[i]:=List.getElem?_eq_getElem h1
  obtain ⟨y,hy,cS⟩:=hv.get hx
  have h2:i < aF.size:=by omega
  have e1:(aF++Array.replicate (n - aF.size) undef).getD i undef=y:=by
   have h3:aF[i]? = some y:=by simpa using hy
   simp [Array.getElem?_append_left h2,h3]
  rw [e1,hx]
  exact cS
 ·rw [List.getElem?_append_right h1]
  have e1:(aF++Array.replicate (n - aF.size) undef).getD i undef=undef:=by
   have h3:aF.size≤i:=by omega
   simp only [Array.getD_eq_getD_getElem?,Array.getElem?_append_right h3]
   by_cases h4:i - aF.size < n - aF.size
   ·simp [h4]
   ·simp [h4]
  rw [e1]
  by_cases h4:i - args.length < n - args.length
  ·simp [h4];exact .undef ρ
  ·simp [h4];exact .undef ρ

theorem cd.set {ρ:ct} {e:Env} {tmps:Array Value} (he:cd ρ e tmps) {v u:Value} (hv:VR ρ v u) (d:Nat):cd ρ (Env.set e d v) (tmps.setIfInBounds d u):=by
 have:=cd.put (a:={ tmps:=tmps,defers:=[] }) he hv (some d)
 exact this

theorem cd.eF {ρ:ct}:∀ (ps:List Tmp) (args:List Value) (aF:List Value) (e:Env) (tmps:Array Value),cd ρ e tmps→cu ρ args aF→cd ρ (Am.eF e ps args) ((ps.zip aF).foldl (fun tmps (t,a)=>tmps.setIfInBounds t a) tmps)
 | [],args,aF,e,tmps,he,_=>by cases args <;> exact he
 |t::ps,[],aF,e,tmps,he,hv=>by rw [hv.of_nil];exact he
 |t::ps,v::args,aF,e,tmps,he,hv=>by
  obtain ⟨u,m,rfl,h1,h2⟩:=hv.of_cons
  exact cd.eF ps args m _ _ (he.set h1 t) h2

theorem zhG {ρ:ct} {h:Heap} {fn:Func} {tmps:Array Value} {R:Ending→World→Prop} {n0:Nat}:∀ (rs:List Nat) (w:World),rs.Nodup→(∀ r∈rs,n0≤r∧w.heap[r]? = some (.deferred (some []))∧∀ A L,ρ A=some L→L.b≠r)→bK ρ h w →
 (∀ w',bK ρ h w'→w'.os=w.os→w'.tape=w.tape→w'.output=w.output→w'.heap.size=w.heap.size→(∀ b,(b < n0∨∃ A L,ρ A=some L∧L.b=b)→w'.heap[b]? = w.heap[b]?)→∃ v,(results fn tmps).run P w'=.ok v w'∧R (.returned v) w') →
 LeavesInM Fence.wide 0 P fn tmps R (rs.map fun r=>{ target:=.collected r,args:=#[] }) .returning w
 | [],w,_,_,hs,hR=>hR w hs rfl rfl rfl rfl (fun _ _=>rfl)
 |r::rs,w,iw,az,hs,hR=>by
  obtain ⟨a1,a2,a3⟩:=az r (by simp)
  have aS:r < w.heap.size:=(Array.getElem?_eq_some_iff.1 a2).1
  refine ⟨by simp,.inl ⟨r,_,rfl,run_takeDeferred a2,?_⟩⟩
  obtain ⟨Dl,Wp⟩:=List.nodup_cons.1 iw
  have dB:(w.putObj r (.deferred none)).heap.size=w.heap.size:=by rw [OI];simp
  refine zhG (n0:=n0) rs _ Wp (fun q hq=>?_) ⟨fun A L hA=>(hs.jX A L hA).keep (fun _ _ h=>h) (by rw [dB];exact Nat.le_refl _) (fun _=>Om (a3 A L hA)),hs.inj⟩ fun w' j6 h1 h2 h3 h4 h5=>?_
  ·obtain ⟨b1,b2,b3⟩:=az q (by simp [hq])
   exact ⟨b1,(Om (fun (e:q=r)=>Dl (e ▸ hq))).trans b2,b3⟩
  ·refine hR w' j6 h1 h2 h3 (h4.trans dB) fun b hb=>(h5 b hb).trans (Om fun e=>?_)
   subst e
   rcases hb with hb|⟨A,L,hA,hb⟩
   ·omega
   ·exact a3 A L hA hb

inductive jU (m:Oper) (t:Tmp) (rest:Code):List Code→Code→Prop where
 |here (id:Nat) (ops:Array Oper) (d:Oper) (args:Array Operand) (eH:Array TypeId):ops.toList=[m,d]→d.op=.defer ⟨.value (.tmp t),args,eH⟩→args.isEmpty=true→m.guard=none→d.guard=none→d.dst=none→jU m t rest [] (.seq (.region id ops false) rest)
 |step (a b:Code) (pre:List Code):jU m t rest pre b→jU m t rest (a::pre) (.seq a b)
theorem zmx {d:Oper} {t:Tmp} (h:zoy d=some t):∃ args eH,d.op=.defer ⟨.value (.tmp t),args,eH⟩∧args.isEmpty=true∧d.guard=none∧d.dst=none:=by
 unfold zoy at h
 split at h
 ·rename_i t' args eH aL
  split at h
  ·rename_i hc
   cases h
   simp only [Bool.and_eq_true,Option.isNone_iff_eq_none] at hc
   exact ⟨args,eH,aL,hc.1.1,hc.1.2,hc.2⟩
  ·cases h
 ·cases h
theorem zpt:∀ (c:Code) (pre:List Code) (m:Oper) (t:Tmp) (rest:Code),vy c=some (pre,m,t,rest)→jU m t rest pre c:=by
 intro c
 induction c with
 |seq a b _ gJ =>
  intro pre m t rest h
  have cE:∀ (a:Code),((vy b).map fun (pre,m,t,r)=>(a::pre,m,t,r))=some (pre,m,t,rest)→jU m t rest pre (.seq a b):=by
   intro a hm
   simp only [Option.map_eq_some_iff,Prod.exists,Prod.mk.injEq] at hm
   obtain ⟨Xu,m',t',r',hs,rfl,rfl,rfl,rfl⟩:=hm
   exact .step a b Xu (gJ _ _ _ _ hs)
  unfold vy at h
  split at h
  ·rename_i id ops b' heq
   cases heq
   split at h
   ·rename_i m' d xu
    split at h
    ·rename_i t' hd
     split at h
     ·rename_i hg
      simp only [Option.some.injEq,Prod.mk.injEq] at h
      obtain ⟨rfl,rfl,rfl,rfl⟩:=h
      obtain ⟨args,eH,h1,h2,h3,h4⟩:=zmx hd
      exact .here id ops d args eH xu h1 h2 (by simpa using hg) h3 h4
     ·exact cE _ h
    ·exact cE _ h
   ·exact cE _ h
  ·rename_i a' b' _ heq
   cases heq
   exact cE _ h
  ·cases h
 |_=>intro pre m t rest h;simp [vy] at h

theorem zmw (hT:T.Fits P) {C:Fn→List Value→Heap→Option (Value × Heap)} {gs:List Nat} (hC:CS P gs C) (hg:rp C) {E:Code→Env→Heap→Option (Ex × Env × Heap)}
 (hE:∀ (n0:Nat) (B:List Deferred) (c:Code) (e:Env) (h:Heap) (x:Ex) (e':Env) (h':Heap) (ρ:ct) (a:Act) (w:World) (Q:Exit→Act→World→Prop),E c e h=some (x,e',h')→cy ρ c→(true=true→jL c=true)→cL gs ρ→bK ρ h w→eY ρ h h'→cd ρ e a.tmps→Marks n0 B true ρ w a.defers→Fh ρ none none→n0≤w.heap.size →
  (∀ ρ' a' w',Fr ρ ρ' h h' w w'→bK ρ' h' w'→cd ρ' e' a'.tmps→Marks n0 B true ρ' w' a'.defers→Q x.to a' w')→c.wpIn (WR none) 0 P Q a w)
 (vL:∀ c e h x e' h',E c e h=some (x,e',h')→bl h h')
 {fn:Func} {c:Code} {e:Env} {h h':Heap} {v:Value} {ρ:ct} {w:World} {tmps:Array Value} (xg:∀ g fg cg,T.fn g=some fg→fg.body=some cg→pG gs cg=true) (di:cy ρ c) (hG:cL gs ρ) (hs:bK ρ h w) (hf:eY ρ h h') (he:cd ρ e tmps)
 (ak:zU P T E C fn c e h=some (v,h')) :
 c.wpIn Fence.wide 0 P (bodyPostM Fence.wide 0 P fn fun ed w'=>∃ ρ' u,ed=.returned u∧Fr ρ ρ' h h' w w'∧bK ρ' h' w'∧VR ρ' v u) { tmps,defers:=[] } w:=by
 have key:∀ (pre:List Code) (m:Oper) (t:Tmp) (rest:Code) (c:Code),jU m t rest pre c→∀ (e:Env) (h1:Heap) (ρ1:ct) (w1:World) (a:Act),pre.all jL=true→jL rest=true→cy ρ1 c→cL gs ρ1→bK ρ1 h1 w1→eY ρ1 h1 h'→cd ρ1 e a.tmps→a.defers=[]→Fr ρ ρ1 h h1 w w1 →
  ((si E pre e h1).bind fun (e1,h1)=>(gM P T C e1 m h1).bind fun (v,h2) =>
    match E rest (put e1 m.dst v) h2 with
    |some (.ret,e3,h3)=>qv T E fn ((put e1 m.dst v).get t) e3 h3
    |some (.normal,e3,h3)=>qv T E fn ((put e1 m.dst v).get t) e3 h3
    |_=>none)=some (v,h') →
  c.wpIn Fence.wide 0 P (bodyPostM Fence.wide 0 P fn fun ed w'=>∃ ρ' u,ed=.returned u∧Fr ρ ρ' h h' w w'∧bK ρ' h' w'∧VR ρ' v u) a w1:=by
  intro pre m t rest c cA
  induction cA with
  |step a0 b0 amh _ ih =>
   intro e h1 ρ1 w1 a ly fm di hG hs hf he hd cN ak
   simp only [List.all_cons,Bool.and_eq_true] at ly
   simp only [si,Option.bind_eq_some_iff,Prod.exists] at ak
   obtain ⟨e2,h2,hp,ak⟩:=ak
   split at hp
   ·rename_i e3 h3 hr
    have nA:bl h3 h':=by
     obtain ⟨v2,h4,ho,ak⟩:=ak
     have k1:=OB vL _ _ _ _ _ hp
     have k2:=Eg hg ho
     split at ak
     ·rename_i hU;exact ((k1.trans k2).trans (vL _ _ _ _ _ _ hU)).trans (Eh vL ak)
     ·rename_i hU;exact ((k1.trans k2).trans (vL _ _ _ _ _ _ hU)).trans (Eh vL ak)
     ·cases ak
    refine wpIn_seq ?_
    refine hE w1.heap.size [] a0 e h1 .normal e3 h3 ρ1 a w1 _ hr di.1 (fun _=>ly.1) hG hs (hf.left nA.size) he (by rw [hd];exact Marks.nil) trivial (Nat.le_refl _) fun ρ2 a2 w2 f2 s2 r2 d2=>?_
    obtain ⟨rs,m1,_,m2,_⟩:=d2
    rw [m2 rfl] at m1
    refine ih e3 h3 ρ2 w2 a2 ly.2 fm (di.2.mono f2.grow) (hG.mono f2.grow) s2 (hf.right f2) r2 (by simpa using m1) (cN.trans f2) ?_
    simp only [Option.bind_eq_some_iff,Prod.exists]
    exact ⟨e2,h2,hp,ak⟩
   ·cases hp
  |here id ops d args eH xu aL dZ hmg NB VG =>
   intro e h1 ρ1 w1 a _ fm di hG hs hf he hd cN ak
   simp only [si,Option.bind_eq_some_iff,Prod.exists,Option.some.injEq,Prod.mk.injEq] at ak
   obtain ⟨e1,bE,⟨rfl,rfl⟩,v1,h2,ho,ak⟩:=ak
   have fp:bl h2 h':=by
    split at ak
    ·rename_i hU;exact (vL _ _ _ _ _ _ hU).trans (Eh vL ak)
    ·rename_i hU;exact (vL _ _ _ _ _ _ hU).trans (Eh vL ak)
    ·cases ak
   refine wpIn_seq (wpIn_region_list ?_)
   rw [xu]
   have Wv:jV ρ1 m:=di.1 m (by rw [xu];simp)
   have FT:Region.wanted m (yielded ops a.tmps)=true:=by simp [Region.wanted,hmg]
   rw [wpListIn,if_pos FT]
   have uI:=F6 hT hC hG hs he Wv (hf.left fp.size) ho
   refine uI.wp (rl:=none) (F0 ho) fun ρ2 u w2 f2 s2 v2=>?_
   have pt:cd ρ2 (put e m.dst v1) (a.put m.dst u).tmps:=(he.mono f2.grow).put v2 m.dst
   have iE:(a.put m.dst u).defers=[]:=by cases m.dst <;> exact hd
   have hwd:Region.wanted d (yielded ops (a.put m.dst u).tmps)=true:=by simp [Region.wanted,NB]
   rw [wpListIn,if_pos hwd]
   have xh:=pt.2 t
   /- what lies there -/
   have De:∃ x e3 h3,(x=Ex.ret∨x=.normal)∧E rest (put e m.dst v1) h2=some (x,e3,h3)∧qv T E fn ((put e m.dst v1).get t) e3 h3=some (v,h'):=by
    split at ak
    ·rename_i e3 h3 hU;exact ⟨_,e3,h3,.inl rfl,hU,ak⟩
    ·rename_i e3 h3 hU;exact ⟨_,e3,h3,.inr rfl,hU,ak⟩
    ·cases ak
   obtain ⟨x,e3,h3,hx,hU,cp⟩:=De
   unfold qv at cp
   split at cp
   ·rename_i g fi ca qd
    rw [qd] at xh
    generalize Vv:(a.put m.dst u).tmps.getD t undef=ag at xh
    cases xh with
    |func _ q1 q2 q3 q4 =>
     rename_i Ao Ak
     have jO:cu ρ2 fi.toList Ao.toList:=⟨by simpa using q1,fun i x y hx hy=>q3 i x y (by simpa using hx) (by simpa using hy)⟩
     have kH:cu ρ2 ca.toList Ak.toList:=⟨by simpa using q2,fun i x y hx hy=>q4 i x y (by simpa using hx) (by simpa using hy)⟩
     simp only [Option.bind_eq_some_iff] at cp
     obtain ⟨fg,CZ,cg,Fz,cp⟩:=cp
     split at cp
     ·rename_i j5
      have hae:(a.put m.dst u).eval (.tmp t)=.func (.func g) Ao Ak:=Vv
      have jC:(execOp (a.put m.dst u).eval d).run P w2=.ok (.defer { target:=.fn (.func g) Ak,args:=Ao }) w2:=by
       have CO:args=#[]:=by simpa using dZ
       simp [execOp,aL,resolve,hae,Deferred.ofValue,CO]
      refine ⟨fun fq hq=>trivial,?_⟩
      rw [show Oper.semAt Fence.wide.round (a.put m.dst u).eval d=execOp (a.put m.dst u).eval d from rfl,jC]
      simp only [Oper.uponIn,wpListIn,VG,iE]
      have nA:bl h3 h':=Eh vL (show qv T E fn (.func (.func g) fi ca) e3 h3=some (v,h') by unfold qv;simp only [CZ,Option.bind_some,Fz,j5,if_true];exact cp)
      refine hE w2.heap.size [{ target:=.fn (.func g) Ak,args:=Ao }] rest _ _ _ _ _ ρ2 _ w2 _ hU (di.2.mono f2.grow) (fun _=>fm) (hG.mono f2.grow) s2 ((hf.right f2).left nA.size) pt Marks.nil trivial (Nat.le_refl _) fun ρ3 a3 w3 f3 s3 r3 d3=>?_
      obtain ⟨rs,m1,_,m2,_⟩:=d3
      rw [m2 rfl] at m1
      have m1':a3.defers=[{ target:=.fn (.func g) Ak,args:=Ao }]:=by simpa using m1
      have hl:LeavesInM Fence.wide 0 P fn a3.tmps (fun ed w'=>∃ ρ' u,ed=.returned u∧Fr ρ ρ' h h' w w'∧bK ρ' h' w'∧VR ρ' v u) a3.defers .returning w3:=by
       rw [m1']
       obtain ⟨hPg,gY,_⟩:=hT.fn g fg CZ
       have fj:¬ fg.name="runtime.NumGoroutine":=by simpa using gY
       refine ⟨by simp,.inr ⟨(fun hh=>by cases hh),_,_,g,Ao++Ak,rfl,?_,fun _ _=>trivial,?_⟩⟩
       ·show (callFunc g (Ao++Ak)).run P w3=_
        simp [callFunc,hPg,fj,Fz]
       ·have dF:cu ρ3 (fi.toList++ca.toList) (Ao++Ak).toList:=by
         have:=(jO.append kH).mono f3.grow
         simpa using this
        have heg:=cd.enter dF fg.ntmps
        have JZ:∃ y e4 h4 vg,(y=Ex.ret∨y=.normal)∧E cg ((fi.toList++ca.toList)++List.replicate (fg.ntmps - (fi.toList++ca.toList).length) undef) h3=some (y,e4,h4)∧lF T fg e4 h4=some vg∧lF T fn e3 h4=some v∧h4=h':=by
         split at cp
         ·rename_i e4 h4 Dw
          simp only [Option.bind_eq_some_iff,Option.map_eq_some_iff,Prod.mk.injEq] at cp
          obtain ⟨vg,DL,v',J9,rfl,rfl⟩:=cp
          exact ⟨_,e4,h4,vg,.inl rfl,Dw,DL,J9,rfl⟩
         ·rename_i e4 h4 Dw
          simp only [Option.bind_eq_some_iff,Option.map_eq_some_iff,Prod.mk.injEq] at cp
          obtain ⟨vg,DL,v',J9,rfl,rfl⟩:=cp
          exact ⟨_,e4,h4,vg,.inr rfl,Dw,DL,J9,rfl⟩
         ·cases cp
        obtain ⟨y,e4,h4,vg,hy,Dw,DL,j9,rfl⟩:=JZ
        refine (callsDIn_of_wp (R:=fun ed w'=>∃ u,ed=.returned u∧∃ vr,(results fn a3.tmps).run P w'=.ok vr w'∧∃ ρ' u',Ending.returned vr=.returned u'∧Fr ρ ρ' h h4 w w'∧bK ρ' h4 w'∧VR ρ' v u') hPg Fz trivial ?_).mono ?_
        ·refine hE w3.heap.size [] cg _ _ _ _ _ ρ3 _ w3 _ Dw (.of (hG.mono (f2.trans f3).grow) (xg g fg cg CZ Fz)) (fun _=>j5) (hG.mono (f2.trans f3).grow) s3 ((hf.right f2).right f3) heg Marks.nil trivial (Nat.le_refl _) fun ρ4 a4 w4 f4 s4 r4 d4=>?_
         obtain ⟨rs4,n1,_,n2,_⟩:=d4
         rw [n2 rfl] at n1
         have n1':a4.defers=[]:=by simpa using n1
         obtain ⟨ug,hug,_⟩:=YA hT s4 r4 DL
         obtain ⟨uf,huf,W0⟩:=YA hT s4 (r3.mono f4.grow) j9
         have hbp:a4.defers=[]∧∃ vv,(results fg a4.tmps).run P w4=.ok vv w4∧∃ u,Ending.returned vv=.returned u∧∃ vr,(results fn a3.tmps).run P w4=.ok vr w4∧∃ ρ' u',Ending.returned vr=.returned u'∧Fr ρ ρ' h h4 w w4∧bK ρ' h4 w4∧VR ρ' v u' :=
          ⟨n1',ug,hug,ug,rfl,uf,huf,ρ4,uf,rfl,((cN.trans f2).trans f3).trans f4,s4,W0⟩
         rcases hy with rfl|rfl
         ·exact hbp
         ·exact hbp
        ·rintro ed u' w' ⟨rfl,uu,rfl,vr,vV,hR⟩
         exact ⟨vr,vV,hR⟩
      rcases hx with rfl|rfl
      ·exact hl
      ·exact hl
     ·cases cp
   ·cases cp
 unfold zU at ak
 simp only [Option.bind_eq_some_iff,Prod.exists] at ak
 obtain ⟨pre,m,t,rest,cA,ak⟩:=ak
 split at ak
 ·rename_i j5
  simp only [Bool.and_eq_true] at j5
  exact key pre m t rest c (zpt _ _ _ _ _ cA) e h ρ w _ j5.1 j5.2 di hG hs hf he rfl (Fr.refl _ _ _) ak
 ·cases ak

theorem YO (j4:P.follows .mixedOrders=true) (hT:T.Fits P) (nY:Ab P T.gs ov):∀ n,CS P T.gs (call P T ov n)
 |0=>by
  refine ⟨?_,?_⟩
  ·intro f args h v h' ak;simp [call] at ak
  ·intro f args h v h' ak;simp [call] at ak
 |n+1=>by
  have Kh:=YO j4 hT nY n
  have lP:=zkh (T:=T) nY n
  have tZ:=fun (rd rl:Option Nat) (n0:Nat)=>zfT hT Kh lP (zfU j4 hT Kh lP) (Ei lP) rd rl n0 [] false n
  have uo:=fun (rd:Option Nat)=>Ej (P:=P) (T:=T) lP (Ei (P:=P) (T:=T) lP) rd n
  refine ⟨?_,?_⟩
  ·intro f args h v h' ak ρ w aF hG hs hf hv
   simp only [call] at ak
   split at ak
   ·rename_i g hg
    exact (nY f g hg args h v h' ak).2 ρ w aF hG hs hf hv
   ·simp only [Option.bind_eq_some_iff] at ak
    obtain ⟨fn,rJ,c,hc,ak⟩:=ak
    obtain ⟨hP,gY,di⟩:=hT.fn f fn rJ
    right
    refine ⟨?_,?_⟩
    ·have fj:¬ fn.name="runtime.NumGoroutine":=by simpa using gY
     simp [callFunc,hP,fj,hc]
    ·refine callsIn_wide.1 (callsIn_of_wp_marks (n:=0) hP hc trivial ?_)
     have he:=cd.enter hv fn.ntmps
     have go:∀ (x:Ex) (e:Env) (h2:Heap),x=.ret∨x=.normal→dx P T (call P T ov n) (mu P T (call P T ov n)) none n c (args++List.replicate (fn.ntmps - args.length) undef) h=some (x,e,h2) →
      (lF T fn e h2).map (fun v=>(v,h2))=some (v,h')→c.wpIn Fence.wide 0 P (bodyPostM Fence.wide 0 P fn fun ed w'=>∃ ρ' u,ed=.returned u∧Fr ρ ρ' h h' w w'∧bK ρ' h' w'∧VR ρ' v u) { tmps:=aF++Array.replicate (fn.ntmps - aF.size) undef,defers:=[] } w:=by
      intro x e h2 hx hr jC
      simp only [Option.map_eq_some_iff,Prod.mk.injEq] at jC
      obtain ⟨v',jC,rfl,rfl⟩:=jC
      refine tZ none none w.heap.size c _ _ _ _ _ ρ _ w _ hr (.of hG (di c hc)) (fun q=>by cases q) hG hs hf he Marks.nil trivial (Nat.le_refl _) fun ρ' a' w' f1 s1 e1 d1=>?_
      obtain ⟨rs,m1,m2,_,m3⟩:=d1
      rw [List.append_nil] at m1
      have hl:LeavesInM Fence.wide 0 P fn a'.tmps (fun ed w'=>∃ ρ' u,ed=.returned u∧Fr ρ ρ' h h2 w w'∧bK ρ' h2 w'∧VR ρ' v' u) a'.defers .returning w':=by
       rw [m1]
       refine zhG rs w' m2 m3 s1 fun w2 s2 q1 q2 q3 q4 q5=>?_
       obtain ⟨u,hu,lN⟩:=YA hT s2 e1 jC
       refine ⟨u,hu,ρ',u,rfl,⟨f1.grow,f1.fresh,q1.trans f1.os,q2.trans f1.tape,q3.trans f1.output,by rw [q4];exact f1.size,f1.gE,f1.low,fun b hb az=>?_,f1.qD⟩,s2,lN⟩
       exact (q5 b (.inl hb)).trans (f1.keep b hb az)
      rcases hx with rfl|rfl
      ·exact hl
      ·exact hl
     split at ak
     ·exact zmw hT Kh lP (fun n0 B c e h x e' h' ρ a w Q=>zfT hT Kh lP (zfU j4 hT Kh lP) (Ei lP) none none n0 B true n c e h x e' h' ρ a w Q) (fun c e h x e' h' hr=>uo none c e h x e' h' hr) (fun g fg cg h1 h2=>(hT.fn g fg h1).2.2 cg h2) (.of hG (di c hc)) hG hs hf he ak
     split at ak
     ·rename_i e h2 hr;exact go .ret e h2 (.inl rfl) hr ak
     ·rename_i e h2 hr;exact go .normal e h2 (.inr rfl) hr ak
     ·cases ak
  ·intro A args h v h' ak ρ w aF L hA hG hs hf hv
   simp only [call] at ak
   unfold BF at ak
   split at ak
   ·rename_i env ps assign body st dt hg
    split at ak
    ·rename_i hlen
     split at ak
     ·rename_i e1 h1 uG
      split at ak
      ·rename_i ni xU m6 k5 ic AE
       obtain ⟨lo,l1,l2,l3,l4,l5,l6,l7,l8,l9,_⟩:=L9 hs hA hg
       have Ax:args.length=aF.size:=by simpa using hv.1
       have FO:lo.params.size=ps.length:=by rw [← l4];simp
       refine ⟨lo.fn,(lo.params.zip aF).foldl (fun tmps (t,a)=>tmps.setIfInBounds t a) lo.tmps,lo.assign,lo.body,?_,?_⟩
       ·simp only [Instr.yield,Sem.run_bind,run_getLoop l1,Result.andThen_ok]
        rw [if_neg (by omega)]
        simp
       ·have key:∀ (x:Ex) (e2:Env) (h2:Heap) (jump:Option Code),dx P T (call P T ov n) (mu P T (call P T ov n)) (some A) n body e1 (h1.set A (.loop ni xU m6 k5 .busy ic))=some (x,e2,h2) →
         (jump=match x with | .normal=>none | .ret=>some .ret | .exit id=>some (.exit id))→we A jump h2=some (v,h')→RoundIn Fence.wide 0 P L.b lo.fn ((lo.params.zip aF).foldl (fun tmps (t,a)=>tmps.setIfInBounds t a) lo.tmps) lo.assign lo.body w fun ed w'=>∃ ρ' u,ed=.returned u∧Fr ρ ρ' h h' w w'∧bK ρ' h' w'∧VR ρ' v u:=by
         intro x e2 h2 jump hU uj me
         have k1:=uo (some A) _ _ _ _ _ _ uG
         have k2:=uo (some A) _ _ _ _ _ _ hU
         have k3:=Oi me
         have s1:=k2.size
         have s2:=k3.size
         rw [Heap.size_set] at s1
         refine roundIn_of_wpIn (F:=Fence.wide) trivial ?_
         have VI:cd ρ (eF env ps args) ((lo.params.zip aF).foldl (fun tmps (t,a)=>tmps.setIfInBounds t a) lo.tmps):=by
          have:=cd.eF ps args aF.toList env lo.tmps l7 hv
          rw [← Array.foldl_toList,Array.toList_zip,l4]
          exact this
         rw [l5]
         refine tZ (some A) (some L.b) w.heap.size assign _ _ _ _ _ ρ _ w _ uG l8 (fun q=>by cases q) hG hs (hf.left (by omega)) VI Marks.nil ⟨L,hA,rfl⟩ (Nat.le_refl _) fun ρ1 a1 w1 f1 sm1 en1 d1=>?_
         have mb:=f1.grow A L hA
         obtain ⟨lo1,p1,p2,p3,p4,p5,p6,p7,p8,p9,p10⟩:=L9 sm1 mb AE
         obtain ⟨f2,sm2⟩:=p10 .busy ic
         have Wg:({ lo1 with state:=LoopState.busy,pending:=ic }:Loop)={ lo1 with state:=LoopState.busy }:=by subst p3;rfl
         rw [Wg] at f2 sm2
         refine ⟨_,run_beginRound p1 p2,?_⟩
         rw [l6]
         refine tZ (some A) (some L.b) w.heap.size body _ _ _ _ _ ρ1 a1 _ _ hU (l9.mono f1.grow) (fun q=>by cases q) (hG.mono f1.grow) sm2 ?_ en1 (d1.step f2) ⟨L,mb,rfl⟩ (Nat.le_trans f1.size f2.size) fun ρ3 a3 w3 f3 sm3 en3 d3=>?_
         ·have cN:eY ρ1 h1 h2:=((hf.left (by omega)).right f1)
          exact cN
         ·have IL:=f3.grow A L mb
          unfold we at me
          split at me
          ·rename_i IB ps3 qE Ac fe adt hg3
           cases me
           obtain ⟨D8,z1,z2,z3,z4,z5,z6,z7,z8,z9,zH⟩:=L9 sm3 IL hg3
           obtain ⟨f4,sm4⟩:=zH (if jump.isNone then .ready else .done) jump
           have lq:∃ ρ' u,Ending.returned (.bool jump.isNone)=.returned u∧Fr ρ ρ' h (h2.set A (.loop IB ps3 qE Ac (if jump.isNone then .ready else .done) jump)) w (w3.putObj L.b (.loop { D8 with state:=if jump.isNone then .ready else .done,pending:=jump })) ∧
            bK ρ' (h2.set A (.loop IB ps3 qE Ac (if jump.isNone then .ready else .done) jump)) (w3.putObj L.b (.loop { D8 with state:=if jump.isNone then .ready else .done,pending:=jump }))∧VR ρ' (.bool jump.isNone) u :=
            ⟨ρ3,_,rfl,((f1.trans f2).trans f3).trans f4,sm4,.bool _⟩
           have dG:=run_endRound (P:=P) jump z1
           cases x with
           |normal=>subst uj;exact ⟨_,_,dG,lq⟩
           |ret=>subst uj;exact ⟨_,_,dG,lq⟩
           |exit id=>subst uj;exact ⟨_,_,dG,lq⟩
          ·cases me
        split at ak
        ·rename_i e2 h2 hU;exact key _ _ _ _ hU rfl ak
        ·rename_i e2 h2 hU;exact key _ _ _ _ hU rfl ak
        ·rename_i e2 h2 hU;exact key _ _ _ _ hU rfl ak
        ·cases ak
      ·cases ak
     ·cases ak
    ·cases ak
   ·cases ak

theorem Fr.below {ρ ρ':ct} {h h':Heap} {w w':World} (f:Fr ρ ρ' h h' w w') (rP:∀ A L,ρ A=some L→A < h'.low):Below w.heap.size w w' :=
 ⟨f.os,f.tape,f.output,f.size,fun k hk=>f.keep k hk fun A L hA _=>.inl (rP A L hA)⟩

theorem zwm (j4:P.follows .mixedOrders=true) (hT:T.Fits P) (nY:Ab P T.gs ov) {n:Nat} {f:FuncId} {b:Bool} {h h':Heap} (hf:ov f=none) (dG:call P T ov n (.func f) [] h=some (.bool b,h')) (w:World) (ρ:ct)
 (hG:cL T.gs ρ) (hs:bK ρ h w) (bQ:∀ A,h.size≤A→ρ A=none) (rP:∀ A L,ρ A=some L→A < h'.low) :
 Calls P f #[] w fun e w'=>e=.returned (.bool b)∧Below w.heap.size w w':=by
 have kC:=(YO j4 hT nY n).fn f [] h (.bool b) h' dG ρ w #[] hG hs (fun A h1 _=>bQ A h1) (.nil _)
 rcases kC with ⟨ρ',u,w',h1,_⟩|⟨_,h1⟩
 ·exfalso
  cases n with
  |zero=>simp [call] at dG
  |succ n =>
   simp only [call,hf,Option.bind_eq_some_iff] at dG
   obtain ⟨fn,rJ,c,hc,_⟩:=dG
   obtain ⟨hP,gY,_⟩:=hT.fn f fn rJ
   have fj:¬ fn.name="runtime.NumGoroutine":=by simpa using gY
   simp [callFunc,hP,fj,hc] at h1
 ·refine h1.mono ?_
  rintro e w' ⟨ρ',u,rfl,f1,s1,hv⟩
  refine ⟨?_,f1.below rP⟩
  rw [hv.bG rfl]
end
end Go.Am
