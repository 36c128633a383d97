/- A region that draws its order: the plain machine goes by the text; what it comes to does not hang on the order. No condition. -/
import Derived.Test.YtkgojconmeeegaaGreatDoorG0
import Derived.Orders
import Derived.OrdersIn
namespace Go.Am
open Go.RowKit

def Uy (T:bK):List TypeId→Bool
 |t::_=>(match T.desc t with|some (.map _ _)=>false|_=>true)
 | []=>true
def oA (T:bK) (o:Oper):Bool :=
 match o.op with
 | .move _ | .assign _ | .pick _ _ _ | .build _ _ | .nilCheck _ | .binOp _ _ _ _ _ | .makeFunc _ _ _ | .slice _ _ _ _ _ | .fieldAddr _ _ _ | .field _ _ _ | .indexAddr _ _ _ | .extract _ _ | .unOp _ _ _ | .index _ _ _ | .makeInterface _ _ | .typeAssert _ _ _ _=>true
 | .convert s d _ => !pS T s && !pS T d
 | .call c=>match c.callee with
  | .builtin .len=>Uy T c.argTypes.toList
  | .builtin .min | .builtin .max | .builtin .cap=>true
  |_=>false
 |_=>false

section
variable (P:Program) (T:bK) (C:Fn→List Value→Heap→Option (Value × Heap))

def ly (o:Oper) (e:Env) (h h':Heap):Nat :=
 if oA T o then 0 else if h.size≤h'.low then (match o.op with
  | .load _ a=>(match bn e a with
   | .pointer (some x)=>3+3*x.block
   |_=>1)
  | .buildSlice _ _ _=>4+3*h.size
  |_=>1)
 else (match o.op with
  | .store _ a _=>(match bn e a with
   | .pointer (some x)=>5+3*x.block
   |_=>2)
  |_=>2)
def rh (ops:Array Oper):List Oper→Env→Heap→Option (List Nat × Env × Heap)
 | [],e,h=>some ([],e,h)
 |o::r,e,h =>
  if ma ops o e then
   match iQ P T C e o { h with low:=h.size } with
   |some (v,h')=>(rh ops r (put e o.dst v) { h' with low:=min h.low h'.low }).map fun (ks,x)=>(ly T o e h h'::ks,x)
   |none=>none
  else (rh ops r (put e o.dst undef) h).map fun (ks,x)=>(0::ks,x)

def Xl (acc:List Nat) (o:Oper):Nat:=o.after.toList.foldl (fun s e=>if Region.binds .any e then s ||| 2 ^ e.on ||| acc.getD e.on 0 else s) 0
def nh:List Oper→List Nat→List Nat
 | [],acc=>acc
 |o::r,acc=>nh r (acc++[Xl acc o])
def qD (a b:Nat):Bool:=a == 0 || b == 0 || (a % 3 != 2 && b % 3 != 2) || (Nat.ble 5 b && b % 3 == 2 && Nat.ble 3 a && ((a % 3 == 0 && a+2 != b) || (a % 3 == 1 && Nat.ble (b+2) a)))
def J3 (ops:Array Oper) (ks ms:List Nat) (j:Nat):Bool :=
 match ops[j]? with
 |some oj=>oj.after.toList.all (fun e => !Region.binds .any e || decide (e.on < j)) &&
  (List.range j).all fun i=>(ms.getD j 0).testBit i || (match ops[i]? with
   |some oi=>oi.apart ops oj && qD (ks.getD i 2) (ks.getD j 2)
   |none=>true)
 |none=>true
def HP (ops:Array Oper) (ks ms:List Nat):Bool:=(List.range ops.size).all (J3 ops ks ms)

def nU (ops:Array Oper) (e:Env) (h:Heap):Option (Env × Heap) :=
 match rh P T C ops ops.toList e h with
 |some (ks,e',h')=>if HP ops ks (nh ops.toList []) then some (e',h') else none
 |none=>none
end

section
variable {P:Program} {T:bK} {C:Fn→List Value→Heap→Option (Value × Heap)}

theorem zsM {t:TypeId} {x:Value} {ts:List TypeId} (hb:Uy T (t::ts)=true) (h h2:Heap):bc T t x h=bc T t x h2:=by
 simp only [Uy] at hb
 unfold bc
 split at hb
 ·cases hb
 ·rename_i aP
  split
  all_goals first|rfl|(rename_i hd;exact (aP _ _ hd).elim)

theorem MQ {e:Env} {o:Oper} {h h':Heap} {v:Value} (hb:oA T o=true) (ak:iQ P T C e o h=some (v,h')):h'=h∧∀ h2,iQ P T C e o h2=some (v,h2):=by
 have cP:∀ {r:Option Value},(r.map fun x=>(x,h))=some (v,h')→h'=h∧∀ h2:Heap,(r.map fun x=>(x,h2))=some (v,h2):=by
  intro r hr
  simp only [Option.map_eq_some_iff,Prod.mk.injEq] at hr
  obtain ⟨_,rfl,rfl,rfl⟩:=hr
  exact ⟨rfl,fun _=>rfl⟩
 have dU:gX P e o h=some (v,h')→h'=h∧∀ h2,gX P e o h2=some (v,h2):=by
  intro hp
  unfold gX at hp ⊢
  split at hp
  ·rename_i h1
   split at hp
   ·rename_i h2
    split at hp
    ·rename_i h3
     cases hp
     exact ⟨rfl,fun _=>by simp [h1,h3]⟩
    ·cases hp
   ·cases hp
  ·cases hp
 obtain ⟨dst,op,ty,pos,after,guard⟩:=o
 cases op <;> simp only [oA,Bool.false_eq_true] at hb <;> simp only [iQ] at ak ⊢
 case move x=>cases ak;exact ⟨rfl,fun _=>rfl⟩
 case assign x=>cases ak;exact ⟨rfl,fun _=>rfl⟩
 case pick c a b =>
  split at ak
  ·cases ak;exact ⟨rfl,fun _=>rfl⟩
  ·cases ak
 case build=>exact cP ak
 case nilCheck x =>
  split at ak
  ·cases ak;exact ⟨rfl,fun _=>rfl⟩
  ·cases ak;exact ⟨rfl,fun _=>rfl⟩
  ·cases ak;exact ⟨rfl,fun _=>rfl⟩
  ·cases ak
 case makeInterface=>exact cP ak
 case typeAssert=>exact cP ak
 case binOp=>exact cP ak
 case makeFunc fn f c =>
  split at ak
  ·cases ak;exact ⟨rfl,fun _=>rfl⟩
  ·cases ak
 case slice=>exact cP ak
 case fieldAddr=>exact cP ak
 case field=>exact cP ak
 case indexAddr=>exact cP ak
 case extract t i =>
  split at ak
  ·exact cP ak
  ·cases ak
 case unOp=>exact dU ak
 case convert s d x =>
  simp only [Bool.and_eq_true,Bool.not_eq_true'] at hb
  rw [hb.1,hb.2] at ak ⊢
  exact dU ak
 case index=>exact dU ak
 case call c =>
  obtain ⟨callee,args,fb⟩:=c
  cases callee with
  |value f=>simp at hb
  |invoke r m=>simp at hb
  |builtin b =>
   cases b <;> simp at hb <;> simp only at ak ⊢
   case len =>
    split at ak
    ·rename_i uh kT
     rw [uh] at hb
     obtain ⟨e1,e2⟩:=cP ak
     exact ⟨e1,fun h2=>by rw [zsM hb h2 h];exact e2 h2⟩
    ·cases ak
   case min=>exact dU ak
   case max=>exact dU ak
   case cap =>
    split at ak
    ·exact cP ak
    ·cases ak

theorem znJ {e e':Env} {o:Oper} (h:Heap) (he:∀ x∈o.op.operands.toList,bn e x=bn e' x):iQ P T C e o h=iQ P T C e' o h:=by
 have dU:(∀ cs b,o.op≠.select cs b)→gX P e o h=gX P e' o h:=by
  intro acV
  unfold gX
  have h1:execOp (bn e) o=execOp (bn e') o:=execOp_congr o acV (fun x hx=>he x (by simpa using hx))
  have h2:(o.op.operands.toList.all fun x=>plain (bn e x))=(o.op.operands.toList.all fun x=>plain (bn e' x)):=by
   rw [Bool.eq_iff_iff,List.all_eq_true,List.all_eq_true]
   exact ⟨fun hh x hx=>by rw [← he x hx];exact hh x hx,fun hh x hx=>by rw [he x hx];exact hh x hx⟩
  rw [h1,h2]
 have ob:∀ (xs:List Operand),(∀ x∈xs,x∈o.op.operands.toList)→xs.map (bn e)=xs.map (bn e'):=fun xs hx=>List.map_congr_left fun x kT=>he x (hx x kT)
 unfold iQ
 dsimp only
 split
 ·rename_i x aV;rw [he x (by simp [aV,Op.operands])]
 ·rename_i x aV;rw [he x (by simp [aV,Op.operands])]
 ·rename_i c a b aV;rw [he c (by simp [aV,Op.operands]),he a (by simp [aV,Op.operands]),he b (by simp [aV,Op.operands])]
 ·rfl
 ·rename_i t x aV;rw [he x (by simp [aV,Op.operands])]
 ·rename_i t ps aV
  rw [List.map_congr_left (g:=fun (p:Nat × Operand)=>(p.1,bn e' p.2)) fun p hp=>by rw [he p.2 (by simp [aV,Op.operands];exact ⟨p.1,by simpa using hp⟩)]]
 ·rename_i t n ps aV
  rw [List.map_congr_left (g:=fun (p:Nat × Operand)=>(p.1,bn e' p.2)) fun p hp=>by rw [he p.2 (by simp [aV,Op.operands];exact ⟨p.1,by simpa using hp⟩)]]
 ·rename_i t x aV;rw [he x (by simp [aV,Op.operands])]
 ·rename_i t a x aV;rw [he a (by simp [aV,Op.operands]),he x (by simp [aV,Op.operands])]
 ·rename_i x aV;rw [he x (by simp [aV,Op.operands])]
 ·rename_i op t x y yt aV;rw [he x (by simp [aV,Op.operands]),he y (by simp [aV,Op.operands])]
 ·rename_i fn f c aV
  have h1:=ob f.toList (fun x hx=>by simp [aV,Op.operands];left;simpa using hx)
  have h2:=ob c.toList (fun x hx=>by simp [aV,Op.operands];right;simpa using hx)
  have h3:f.map (bn e)=f.map (bn e'):=by apply Array.ext';simpa using h1
  have h4:c.map (bn e)=c.map (bn e'):=by apply Array.ext';simpa using h2
  rw [h3,h4]
 ·rename_i t l c aV;rw [he l (by simp [aV,Op.operands]),he c (by simp [aV,Op.operands])]
 ·rename_i t x l hi m aV
  have GD:∀ (y:Option Operand),(∀ z,y=some z→z∈o.op.operands.toList)→y.map (bn e)=y.map (bn e'):=by
   intro y hy
   cases y with
   |none=>rfl
   |some z=>simp [he z (hy z rfl)]
  rw [he x (by simp [aV,Op.operands]),GD l (fun z hz=>by subst hz;simp [aV,Op.operands]),GD hi (fun z hz=>by subst hz;simp [aV,Op.operands]),GD m (fun z hz=>by subst hz;simp [aV,Op.operands])]
 ·rename_i s x f aV;rw [he x (by simp [aV,Op.operands])]
 ·rename_i t x f aV;rw [he x (by simp [aV,Op.operands])]
 ·rename_i t x i aV;rw [he x (by simp [aV,Op.operands]),he i (by simp [aV,Op.operands])]
 ·rename_i t i aV;rw [he t (by simp [aV,Op.operands])]
 ·rename_i aV;exact dU (by simp [aV])
 ·rename_i s d x aV;rw [he x (by simp [aV,Op.operands]),dU (by simp [aV])]
 ·rename_i aV;exact dU (by simp [aV])
 ·rename_i c aV
  obtain ⟨callee,args,fb⟩:=c
  dsimp only
  have ha:=ob args.toList (fun x hx=>by simp [aV,Op.operands,Call.operands];right;simpa using hx)
  have cd:∀ x∈args.toList,bn e x=bn e' x:=fun x hx=>he x (by simp [aV,Op.operands,Call.operands];right;simpa using hx)
  split
  ·split
   ·rename_i h1 h2;rw [cd _ (by rw [h2];simp),cd _ (by rw [h2];simp)]
   ·rfl
  ·split
   ·rename_i h1 h2;rw [cd _ (by rw [h2];simp),cd _ (by rw [h2];simp)]
   ·rfl
  ·split
   ·rename_i h1 h2;rw [cd _ (by rw [h2];simp)]
   ·rfl
  ·split
   ·rename_i h1 h2;rw [cd _ (by rw [h2];simp)]
   ·rfl
  ·exact dU (by simp [aV])
  ·exact dU (by simp [aV])
  ·split
   ·rename_i h1 h2;rw [cd _ (by rw [h2];simp),cd _ (by rw [h2];simp)]
   ·rfl
  ·split
   ·rename_i h1 h2;rw [cd _ (by rw [h2];simp)]
   ·rfl
  ·rename_i rv name
   rw [he rv (by simp [aV,Op.operands,Call.operands]),ha]
  ·rename_i f
   rw [he f (by simp [aV,Op.operands,Call.operands]),ha]
  ·rfl
 ·rename_i t r aV
  cases r with
  |none=>rfl
  |some x=>simp only;rw [he x (by simp [aV,Op.operands])]
 ·rename_i t x k ok aV;rw [he x (by simp [aV,Op.operands]),he k (by simp [aV,Op.operands])]
 ·rename_i t m k x aV;rw [he m (by simp [aV,Op.operands]),he k (by simp [aV,Op.operands]),he x (by simp [aV,Op.operands])]
 ·rename_i t m k x aV;rw [he m (by simp [aV,Op.operands]),he k (by simp [aV,Op.operands]),he x (by simp [aV,Op.operands])]
 ·rename_i t m k aV;rw [he m (by simp [aV,Op.operands]),he k (by simp [aV,Op.operands])]
 ·rename_i t m k x aV;rw [he m (by simp [aV,Op.operands]),he k (by simp [aV,Op.operands]),he x (by simp [aV,Op.operands])]
 ·rename_i t x aV;rw [he x (by simp [aV,Op.operands])]
 ·rename_i x xt t ok aV;rw [he x (by simp [aV,Op.operands])]
 ·rfl
end
end Go.Am
namespace Go.Am
open Go.RowKit

section
variable {P:Program} {T:bK} {C:Fn→List Value→Heap→Option (Value × Heap)}

def ft (P:Program) (T:bK) (C:Fn→List Value→Heap→Option (Value × Heap)) (ops:Array Oper) (o:Oper) (e e1:Env) (h h1:Heap) (v:Value) (k:Nat):Prop :=
 (ma ops o e=true∧∃ h2,iQ P T C e o { h with low:=h.size }=some (v,h2)∧h1={ h2 with low:=min h.low h2.low }∧e1=put e o.dst v∧k=ly T o e h h2) ∨
 (ma ops o e=false∧v=undef∧h1=h∧e1=put e o.dst undef∧k=0)

theorem zr7 {ops:Array Oper}:∀ (l:List Oper) (e e':Env) (h h':Heap) (ks:List Nat),rh P T C ops l e h=some (ks,e',h') →
 ∃ (E:Nat→Env) (H:Nat→Heap) (V:Nat→Value),E 0=e∧H 0=h∧E l.length=e'∧H l.length=h'∧ks.length=l.length ∧
   ∀ i o,l[i]? = some o→ft P T C ops o (E i) (E (i+1)) (H i) (H (i+1)) (V i) (ks.getD i 2)
 | [],e,e',h,h',ks,ak=>by
  simp only [rh,Option.some.injEq,Prod.mk.injEq] at ak
  obtain ⟨rfl,rfl,rfl⟩:=ak
  exact ⟨fun _=>e,fun _=>h,fun _=>undef,rfl,rfl,rfl,rfl,rfl,fun i o hi=>by simp at hi⟩
 |o::l,e,e',h,h',ks,ak=>by
  have glue:∀ (e1:Env) (h1:Heap) (v:Value) (k:Nat) (gA:List Nat),rh P T C ops l e1 h1=some (gA,e',h')→ft P T C ops o e e1 h h1 v k→ks=k::gA →
   ∃ (E:Nat→Env) (H:Nat→Heap) (V:Nat→Value),E 0=e∧H 0=h∧E (o::l).length=e'∧H (o::l).length=h'∧ks.length=(o::l).length ∧
     ∀ i o',(o::l)[i]? = some o'→ft P T C ops o' (E i) (E (i+1)) (H i) (H (i+1)) (V i) (ks.getD i 2):=by
   intro e1 h1 v k gA hr ez hk
   obtain ⟨E,H,V,bH,yi,yj,S7,h5',h6'⟩:=zr7 l e1 e' h1 h' gA hr
   subst hk
   refine ⟨fun n=>match n with|0=>e|n+1=>E n,fun n=>match n with|0=>h|n+1=>H n,fun n=>match n with|0=>v|n+1=>V n,rfl,rfl,yj,S7,by simp [h5'],?_⟩
   intro i o' hi
   cases i with
   |zero =>
    simp only [List.getElem?_cons_zero,Option.some.injEq] at hi
    subst hi
    simp only [bH,yi,List.getD_cons_zero]
    exact ez
   |succ i =>
    have:=h6' i o' (by simpa using hi)
    simpa using this
  simp only [rh] at ak
  split at ak
  ·rename_i hw
   split at ak
   ·rename_i v h2 hr
    simp only [Option.map_eq_some_iff,Prod.exists,Prod.mk.injEq] at ak
    obtain ⟨gA,x1,x2,bz,hk,rfl,rfl⟩:=ak
    exact glue _ _ v _ gA bz (.inl ⟨hw,h2,hr,rfl,rfl,rfl⟩) hk.symm
   ·cases ak
  ·rename_i hw
   simp only [Option.map_eq_some_iff,Prod.exists,Prod.mk.injEq] at ak
   obtain ⟨gA,x1,x2,bz,hk,rfl,rfl⟩:=ak
   exact glue _ _ undef _ gA bz (.inr ⟨by simpa using hw,rfl,rfl,rfl,rfl⟩) hk.symm

/-! ### Who comes ahead of whom -/
theorem GI:∀ (l:List Oper) (acc:List Nat) (k:Nat),k < acc.length→(nh l acc).getD k 0=acc.getD k 0
 | [],acc,k,_=>rfl
 |o::l,acc,k,hk=>by
  rw [nh,GI l _ k (by simp;omega)]
  simp [List.getElem?_append_left hk]
theorem UA:∀ (l:List Oper) (acc:List Nat) (t:Nat) (o:Oper),l[t]? = some o→∃ rF:List Nat,rF.length=acc.length+t∧(nh l acc).getD (acc.length+t) 0=Xl rF o∧∀ k,k < acc.length+t→rF.getD k 0=(nh l acc).getD k 0
 | [],acc,t,o,h=>by simp at h
 |o'::l,acc,0,o,h=>by
  simp only [List.getElem?_cons_zero,Option.some.injEq] at h
  subst h
  refine ⟨acc,rfl,?_,fun k hk=>?_⟩
  ·rw [nh,Nat.add_zero,GI l _ acc.length (by simp)]
   simp
  ·rw [nh,GI l _ k (by simp;omega)]
   simp [List.getElem?_append_left (show k < acc.length by omega)]
 |o'::l,acc,t+1,o,h=>by
  obtain ⟨rF,h1,h2,h3⟩:=UA l (acc++[Xl acc o']) t o (by simpa using h)
  simp only [List.length_append,List.length_singleton] at h1 h2 h3
  rw [show acc.length+(t+1)=acc.length+1+t by omega]
  exact ⟨rF,h1,h2,h3⟩

theorem zh6 {acc:List Nat} {o:Oper} {i:Nat} (h:(Xl acc o).testBit i=true):∃ e∈o.after.toList,Region.binds .any e=true∧(i=e.on∨(acc.getD e.on 0).testBit i=true):=by
 have key:∀ (l:List Edge) (s:Nat),(l.foldl (fun s e=>if Region.binds .any e then s ||| 2 ^ e.on ||| acc.getD e.on 0 else s) s).testBit i=true →
  s.testBit i=true∨∃ e∈l,Region.binds .any e=true∧(i=e.on∨(acc.getD e.on 0).testBit i=true):=by
  intro l
  induction l with
  |nil=>intro s hs;exact .inl hs
  |cons e l ih =>
   intro s hs
   rw [List.foldl_cons] at hs
   rcases ih _ hs with h1|⟨e',h1,h2,h3⟩
   ·split at h1
    ·rename_i hb
     rw [Nat.testBit_or,Nat.testBit_or,Bool.or_eq_true,Bool.or_eq_true] at h1
     rcases h1 with (h1|h1)|h1
     ·exact .inl h1
     ·rw [Nat.testBit_two_pow] at h1
      exact .inr ⟨e,by simp,hb,.inl (of_decide_eq_true h1).symm⟩
     ·exact .inr ⟨e,by simp,hb,.inr h1⟩
    ·exact .inl h1
   ·exact .inr ⟨e',by simp [h1],h2,h3⟩
 rcases key _ 0 h with h1|h1
 ·simp at h1
 ·exact h1

theorem zoh {ops:Array Oper} {S:Nat→Prop} (oa:∀ (j:Nat) (o:Oper),ops[j]? = some o→∀ e∈o.after.toList,Region.binds .any e=true→e.on < j)
 (mK:∀ (j:Nat) (o:Oper),ops[j]? = some o→S j→∀ e∈o.after.toList,Region.binds .any e=true→S e.on) :
 ∀ (n j:Nat) (o:Oper) (i:Nat),j≤n→ops[j]? = some o→(∀ e∈o.after.toList,Region.binds .any e=true→S e.on)→((nh ops.toList []).getD j 0).testBit i=true→S i:=by
 intro n
 induction n with
 |zero =>
  intro j o i hj ho hd hb
  obtain ⟨rF,h1,h2,h3⟩:=UA ops.toList [] j o (by simpa using ho)
  simp only [List.length_nil,Nat.zero_add] at h1 h2 h3
  rw [h2] at hb
  obtain ⟨e,he,II,_⟩:=zh6 hb
  have:=oa j o ho e he II
  omega
 |succ n ih =>
  intro j o i hj ho hd hb
  obtain ⟨rF,h1,h2,h3⟩:=UA ops.toList [] j o (by simpa using ho)
  simp only [List.length_nil,Nat.zero_add] at h1 h2 h3
  rw [h2] at hb
  obtain ⟨e,he,II,hi⟩:=zh6 hb
  have aR:=oa j o ho e he II
  have hS:=hd e he II
  rcases hi with rfl|hi
  ·exact hS
  ·rw [h3 e.on aR] at hi
   have IP:j < ops.size:=(Array.getElem?_eq_some_iff.1 ho).1
   have YH:ops[e.on]? = some (ops[e.on]'(by omega)):=Array.getElem?_eq_getElem _
   exact ih e.on _ i (by omega) YH (mK e.on _ YH hS) hi

/-! ### The frame, by what is done -/
def eS (e0:Env) (dst:Nat→Option Tmp) (V:Nat→Value) (S:Nat→Bool):Nat→Env
 |0=>e0
 |k+1=>if S k then put (eS e0 dst V S k) (dst k) (V k) else eS e0 dst V S k

theorem Sn {e0:Env} {dst:Nat→Option Tmp} {V:Nat→Value} {S:Nat→Bool} {k:Nat} (h:S k=true):eS e0 dst V S (k+1)=put (eS e0 dst V S k) (dst k) (V k):=by simp only [eS,h,if_true]
theorem Kd {e0:Env} {dst:Nat→Option Tmp} {V:Nat→Value} {S:Nat→Bool} {k:Nat} (h:S k=false):eS e0 dst V S (k+1)=eS e0 dst V S k:=by simp only [eS,h,Bool.false_eq_true,if_false]
theorem W8 (e:Env) (d:Option Tmp) (v:Value):(put e d v).length=e.length:=by cases d <;> simp [put,Env.length_set]
theorem Hw (e0:Env) (dst:Nat→Option Tmp) (V:Nat→Value) (S:Nat→Bool):∀ k,(eS e0 dst V S k).length=e0.length
 |0=>rfl
 |k+1=>by
  simp only [eS]
  split
  ·rw [W8,Hw e0 dst V S k]
  ·exact Hw e0 dst V S k
theorem Jz {e:Env} {d:Option Tmp} {v:Value} {t:Nat} (h:d≠some t):(put e d v).get t=e.get t:=by
 cases d with
 |none=>rfl
 |some d=>simp only [put,Env.aD];rw [if_neg (fun hh=>h (by rw [hh.1]))]
theorem E5 {e e':Env} (hl:e.length=e'.length) {d:Option Tmp} {v:Value} {t:Nat} (h:e.get t=e'.get t):(put e d v).get t=(put e' d v).get t:=by
 cases d with
 |none=>exact h
 |some d=>simp only [put,Env.aD,hl,h]

end
end Go.Am
namespace Go.Am
open Go.RowKit

theorem znt {p p':Nat→Bool}:∀ (l:List Nat),(∀ k∈l,p' k=true→p k=true)→(∃ x∈l,p x=true∧p' x=false)→l.countP p' < l.countP p
 | [],_,h=>by obtain ⟨x,hx,_⟩:=h;simp at hx
 |a::l,hle,h=>by
  have ajm:l.countP p'≤l.countP p:=List.countP_mono_left fun k hk=>hle k (by simp [hk])
  obtain ⟨x,hx,hp,mP⟩:=h
  rw [List.countP_cons,List.countP_cons]
  rcases List.mem_cons.1 hx with rfl|hx
  ·simp only [hp,mP,if_true,Bool.false_eq_true,if_false]
   omega
  ·have ih:=znt l (fun k hk=>hle k (by simp [hk])) ⟨x,hx,hp,mP⟩
   by_cases ha:p' a=true
   ·rw [if_pos ha,if_pos (hle a (by simp) ha)];omega
   ·rw [if_neg ha];split <;> omega

section
variable {P:Program} {T:bK} {C:Fn→List Value→Heap→Option (Value × Heap)}

theorem Heap.mf (h:Heap) (x A:Nat):Heap.get { h with low:=x } A=h.get A:=rfl

theorem ft.keeps (hg:tm C) {ops:Array Oper} {o:Oper} {e e1:Env} {h h1:Heap} {v:Value} {k:Nat} (hs:ft P T C ops o e e1 h h1 v k):bw h h1:=by
 rcases hs with ⟨_,h2,ak,rfl,_,_⟩|⟨_,_,rfl,_,_⟩
 ·have hk:=Hu hg ak
  exact ⟨hk.size,Nat.min_le_left _ _,fun A h3 h4=>hk.get A h3 (Nat.lt_of_lt_of_le h4 (Nat.min_le_right _ _))⟩
 ·exact .refl _
theorem zgC {o:Oper} {e:Env} {h h':Heap} (hb:oA T o=true):ly T o e h h'=0:=by unfold ly;rw [if_pos hb]
theorem TE {o:Oper} {e:Env} {h h':Heap} (hb:¬ oA T o=true) (hl:h.size≤h'.low):ly T o e h h' % 3≠2∧ly T o e h h'≠0 ∧
 (ly T o e h h'=1∨(∃ t a x,o.op=.load t a∧bn e a=.pointer (some x)∧ly T o e h h'=3+3*x.block)∨((∃ t n ps,o.op=.buildSlice t n ps)∧ly T o e h h'=4+3*h.size)):=by
 unfold ly
 rw [if_neg hb,if_pos hl]
 split
 ·rename_i t a aV
  split
  ·rename_i x hx
   exact ⟨by omega,by omega,.inr (.inl ⟨t,a,x,aV,hx,rfl⟩)⟩
  ·exact ⟨by omega,by omega,.inl rfl⟩
 ·rename_i t n ps aV
  exact ⟨by omega,by omega,.inr (.inr ⟨⟨t,n,ps,aV⟩,rfl⟩)⟩
 ·exact ⟨by omega,by omega,.inl rfl⟩
theorem W2 {o:Oper} {e:Env} {h h':Heap} (hb:¬ oA T o=true) (hl:¬ h.size≤h'.low):ly T o e h h' % 3=2 ∧
 (ly T o e h h'=2∨∃ t a y x,o.op=.store t a y∧bn e a=.pointer (some x)∧ly T o e h h'=5+3*x.block):=by
 unfold ly
 rw [if_neg hb,if_neg hl]
 split
 ·rename_i t a y aV
  split
  ·rename_i x hx
   exact ⟨by omega,.inr ⟨t,a,y,x,aV,hx,rfl⟩⟩
  ·exact ⟨rfl,.inl rfl⟩
 ·exact ⟨rfl,.inl rfl⟩
theorem Xo {a b:Nat} (ha:a % 3=2) (hk:qD a b=true):b=0:=by
 unfold qD at hk
 simp only [Bool.or_eq_true,Bool.and_eq_true,beq_iff_eq,bne_iff_ne] at hk
 omega
theorem zvr {a b:Nat} (hb:b % 3=2) (hk:qD a b=true):a=0∨(5≤b∧((a % 3=0∧3≤a∧a+2≠b)∨(a % 3=1∧3≤a∧b+2≤a))):=by
 unfold qD at hk
 simp only [Bool.or_eq_true,Bool.and_eq_true,beq_iff_eq,bne_iff_ne,Nat.ble_eq] at hk
 omega
theorem ft.same (hg:tm C) {ops:Array Oper} {o:Oper} {e e1:Env} {h h1:Heap} {v:Value} {k:Nat} (hs:ft P T C ops o e e1 h h1 v k) (gz:k % 3≠2):∀ A,A < h.size→h1.get A=h.get A:=by
 rcases hs with ⟨_,h2,ak,rfl,_,hk⟩|⟨_,_,rfl,_,_⟩
 ·intro A hA
  by_cases hb:oA T o=true
  ·rw [Heap.mf,(MQ hb ak).1];rfl
  ·by_cases hl:h.size≤h2.low
   ·exact (Hu hg ak).get A hA (by omega)
   ·exact (gz (by rw [hk];exact (W2 hb hl).1)).elim
 ·intro A _;rfl
theorem ft.still {ops:Array Oper} {o:Oper} {e e1:Env} {h h1:Heap} {v:Value} {k:Nat} (hs:ft P T C ops o e e1 h h1 v k) (sK:k=0):h1.size=h.size∧∀ A,h1.get A=h.get A:=by
 rcases hs with ⟨_,h2,ak,rfl,_,hk⟩|⟨_,_,rfl,_,_⟩
 ·by_cases hb:oA T o=true
  ·obtain ⟨rfl,_⟩:=MQ hb ak
   exact ⟨rfl,fun _=>rfl⟩
  ·exfalso
   by_cases hl:h.size≤h2.low
   ·exact (TE hb hl).2.1 (by rw [← hk,sK])
   ·have:=(W2 (e:=e) hb hl).1
    omega
 ·exact ⟨rfl,fun _=>rfl⟩
theorem ft.other {ops:Array Oper} {o:Oper} {e e1:Env} {h h1:Heap} {v:Value} {k:Nat} (hs:ft P T C ops o e e1 h h1 v k) (gz:k % 3=2) (hk5:5≤k):∀ A,5+3*A≠k→h1.get A=h.get A:=by
 rcases hs with ⟨_,h2,ak,rfl,_,hk⟩|⟨_,_,rfl,_,_⟩
 ·intro A hA
  by_cases hb:oA T o=true
  ·rw [zgC hb] at hk;omega
  ·by_cases hl:h.size≤h2.low
   ·have:=(TE (e:=e) hb hl).1
    omega
   ·rcases (W2 (e:=e) hb hl).2 with h3|⟨t,a,y,x,aV,hx,h3⟩
    ·omega
    ·have aP:A≠x.block:=fun e'=>by subst e';omega
     unfold iQ at ak
     simp only [aV,hx,Option.map_eq_some_iff,Prod.mk.injEq] at ak
     obtain ⟨h4,hr,_,rfl⟩:=ak
     rw [Heap.mf]
     obtain ⟨B,off,sp⟩:=x
     unfold ic at hr
     split at hr
     ·rename_i B' o' heq
      cases heq
      simp only [Option.bind_eq_some_iff] at hr
      obtain ⟨n,_,hr⟩:=hr
      split at hr
      ·unfold kj at hr
       split at hr
       ·rename_i cs e' hg
        split at hr
        ·cases hr
         rw [Heap.aD _ _ _ _ (Heap.bD hg),if_neg aP]
         rfl
        ·cases hr
       ·cases hr
      ·cases hr
     ·cases hr
 ·intro A _;rfl

theorem bP.swap {ρ:cE} {h h1:Heap} {w:World} (hs:bP ρ h w) (dF:∀ A L,ρ A=some L→h1.get A=h.get A∨h1.get A=none):bP ρ h1 w:=by
 refine ⟨fun A L hA=>?_,fun A A' L L' hA ei aP hb=>?_⟩
 ·rcases dF A L hA with h2|h2
  ·rw [h2];exact hs.fG A L hA
  ·rw [h2];exact hs.lt hA
 ·have cz:∀ B M,ρ B=some M→¬ live h B→¬ live h1 B:=by
   rintro B M hB hn ⟨b,h3,h4⟩
   rcases dF B M hB with h2|h2
   ·exact hn ⟨b,by rw [← h2];exact h3,h4⟩
   ·rw [h2] at h3;cases h3
  rcases hs.inj A A' L L' hA ei aP hb with h2|h2|⟨⟨c1,e1,h2⟩,⟨c2,e2,h3⟩⟩
  ·exact .inl (cz _ _ hA h2)
  ·exact .inr (.inl (cz _ _ ei h2))
  ·rcases dF A L hA with h4|h4
   ·rcases dF A' L' ei with h5|h5
    ·exact .inr (.inr ⟨⟨c1,e1,by rw [h4];exact h2⟩,⟨c2,e2,by rw [h5];exact h3⟩⟩)
    ·exact .inr (.inl (by rintro ⟨b,h6,_⟩;rw [h5] at h6;cases h6))
   ·exact .inl (by rintro ⟨b,h6,_⟩;rw [h4] at h6;cases h6)

theorem Fr.step {ρ0 ρ ρ':cE} {h0 hf hi hj:Heap} {w0 w w':World} (f:Fr ρ0 ρ h0 hf w0 w) (g:Fr ρ ρ' hi hj w w') (h1:hf.low≤hj.low) (h2:hj.size≤hf.size) (h3:h0.size≤hi.size):Fr ρ0 ρ' h0 hf w0 w':=by
 refine ⟨fun A L hA=>g.grow A L (f.grow A L hA),?_,g.os.trans f.os,g.tape.trans f.tape,g.output.trans f.output,Nat.le_trans f.size g.size,f.iF,f.low,?_,f.sB⟩
 ·intro A L hA hn
  cases hρ:ρ A with
  |some L1 =>
   have e:L1=L:=by have:=g.grow A L1 hρ;rw [hA] at this;exact (Option.some.inj this).symm
   subst e
   exact f.fresh A L1 hρ hn
  |none =>
   obtain ⟨k1,k2,k3⟩:=g.fresh A L hA hρ
   refine ⟨by omega,by omega,?_⟩
   rcases k3 with k3|⟨A0,L0,h5,he,hl,tU⟩
   ·exact .inl (Nat.le_trans f.size k3)
   ·cases G5:ρ0 A0 with
    |some L1 =>
     have e:L1=L0:=by have:=f.grow A0 L1 G5;rw [h5] at this;exact (Option.some.inj this).symm
     subst e
     exact .inr ⟨A0,L1,G5,he,by omega,by omega⟩
    |none =>
     rcases (f.fresh A0 L0 h5 G5).2.2 with h6|⟨A1,L1,h6,Bm,lQ,acu⟩
     ·exact .inl (by omega)
     ·exact .inr ⟨A1,L1,h6,Bm.trans he,lQ,acu⟩
 ·intro b hb aB
  rw [g.keep b (Nat.lt_of_lt_of_le hb f.size) ?_,f.keep b hb aB]
  intro A L hA hL
  cases hρ:ρ0 A with
  |some L0 =>
   have e:L0=L:=by have:=f.grow A L0 hρ;rw [hA] at this;exact (Option.some.inj this).symm
   subst e
   have:=aB A L0 hρ hL
   omega
  |none =>
   rcases (f.fresh A L hA hρ).2.2 with k1|⟨A0,L0,h5,he,hl,tU⟩
   ·omega
   ·have:=aB A0 L0 h5 (he.trans hL)
    omega

theorem zql {t:TypeId} {x:Addr} {h hh:Heap} (hg:hh.get x.block=h.get x.block):dI T t (.pointer (some x)) hh=dI T t (.pointer (some x)) h:=by
 obtain ⟨B,o,s⟩:=x
 cases s <;> simp only [dI,gQ,hg]
theorem zzf {t:TypeId} {x:Addr} {h:Heap} {v:Value} (hl:dI T t (.pointer (some x)) h=some v):x.block < h.size:=by
 rcases Nat.lt_or_ge x.block h.size with h1|h1
 ·exact h1
 ·exfalso
  have hn:h.get x.block=none:=by unfold Heap.get;rw [if_neg (by omega)]
  obtain ⟨B,o,s⟩:=x
  simp only at hn
  cases s with
  |some q=>cases hl
  |none =>
   simp only [dI,gQ,hn,Option.bind_eq_some_iff] at hl
   obtain ⟨g,_,hl⟩:=hl
   cases g <;> simp at hl
theorem ziX {t:TypeId} {n:Nat} {ps:List (Nat × Value)} {h h1 h2:Heap} {v:Value} (hb:oZ T t n ps h=some (v,h2)) (hs:h1.size=h.size):∃ b,h2=h.push b∧oZ T t n ps h1=some (v,h1.push b):=by
 unfold oZ at hb ⊢
 split at hb
 ·rename_i e hd
  simp only [Option.bind_eq_some_iff,Prod.exists] at hb
  obtain ⟨k,uS,z,hi,hb⟩:=hb
  split at hb
  ·cases hb
  ·rename_i hc
   simp only [Option.map_eq_some_iff,Prod.mk.injEq] at hb
   obtain ⟨cs,k8,rfl,rfl⟩:=hb
   refine ⟨_,rfl,?_⟩
   simp only [hi,Option.bind_some]
   rw [if_neg hc,k8,hs]
   rfl
 ·cases hb
theorem zqo {ops:Array Oper} {o:Oper} {t:Nat} (h:Operand.tmp t∈o.op.operands.toList):t∈o.looksAt ops:=by
 unfold Oper.looksAt
 rw [List.mem_append]
 left
 rw [List.mem_filterMap]
 exact ⟨_,h,rfl⟩

set_option maxHeartbeats 1000000 in
theorem zgn (lj:P.follows .mixedOrders=true) (hT:T.Fits P) {gs:List Nat} (hC:CS P gs C) (hg:tm C):DS P gs (nU P T C):=by
 intro rl id ops e0 e' h0 h' ρ0 a0 w0 Q ak dy hG0 yx Bo Bk hQ
 unfold nU at ak
 split at ak
 case h_2=>cases ak
 rename_i ks ee hh dX
 split at ak
 case isFalse=>cases ak
 rename_i DE
 cases ak
 obtain ⟨E,H,V,nI,tI,Wt,zR,kB,htr⟩:=zr7 ops.toList e0 e' h0 h' ks dX
 rw [Array.length_toList] at Wt zR
 have qy:∀ i o,ops[i]? = some o→ft P T C ops o (E i) (E (i+1)) (H i) (H (i+1)) (V i) (ks.getD i 2):=fun i o ho=>htr i o (by simpa using ho)
 have gG:∀ i,i < ops.size→∃ o,ops[i]? = some o:=fun i hi=>⟨_,Array.getElem?_eq_getElem hi⟩
 have dn:∀ i j,i≤j→j≤ops.size→bw (H i) (H j):=by
  intro i j di
  induction di with
  |refl=>intro _;exact .refl _
  |step di ih =>
   rename_i k
   intro hj
   obtain ⟨o,ho⟩:=gG k (by omega)
   exact (ih (by omega)).trans ((qy k o ho).keeps hg)
 have iE:∀ i j,i≤j→j≤ops.size→(∀ k,i≤k→k < j→ks.getD k 2 % 3≠2)→∀ A,A < (H i).size→(H j).get A=(H i).get A:=by
  intro i j di
  induction di with
  |refl=>intro _ _ A _;rfl
  |step di ih =>
   rename_i k
   intro hj hk A hA
   obtain ⟨o,ho⟩:=gG k (by omega)
   have h1:=(qy k o ho).same hg (hk k (by omega) (Nat.lt_succ_self _)) A (Nat.lt_of_lt_of_le hA (dn i k (by omega) (by omega)).size)
   exact h1.trans (ih (by omega) (fun q h2 h3=>hk q h2 (by omega)) A hA)
 have vd:∀ j,j < ops.size→J3 ops ks (nh ops.toList []) j=true:=fun j hj=>List.all_eq_true.1 DE j (List.mem_range.2 hj)
 have oa:∀ (j:Nat) (o:Oper),ops[j]? = some o→∀ e∈o.after.toList,Region.binds .any e=true→e.on < j:=by
  intro j o ho e he hb
  have:=vd j (Array.getElem?_eq_some_iff.1 ho).1
  simp only [J3,ho,Bool.and_eq_true,List.all_eq_true] at this
  have h2:=this.1 e he
  simpa [hb] using h2
 have DX:∀ (i j:Nat) (oi oj:Oper),i < j→ops[i]? = some oi→ops[j]? = some oj→((nh ops.toList []).getD j 0).testBit i=true∨(oi.apart ops oj=true∧qD (ks.getD i 2) (ks.getD j 2)=true):=by
  intro i j oi oj di Al qw
  have:=vd j (Array.getElem?_eq_some_iff.1 qw).1
  simp only [J3,qw,Bool.and_eq_true,List.all_eq_true] at this
  have h2:=this.2 i (List.mem_range.2 di)
  simpa [Al] using h2
 clear DE vd
 let dst:Nat→Option Tmp:=fun k=>(ops[k]?).bind (·.dst)
 refine wpIn_region_any lj ?_
 have M4:∀ k,k≤ops.size→(E k).length=e0.length:=by
  intro k
  induction k with
  |zero=>intro _;rw [nI]
  |succ k ih =>
   intro hk
   obtain ⟨o,ho⟩:=gG k (by omega)
   rcases qy k o ho with ⟨_,_,_,_,h1,_⟩|⟨_,_,_,h1,_⟩ <;> rw [h1,W8,ih (by omega)]
 have Dx:∀ k o,ops[k]? = some o→E (k+1)=put (E k) (dst k) (V k):=by
  intro k o ho
  have hd:dst k=o.dst:=by simp [dst,ho]
  rw [hd]
  rcases qy k o ho with ⟨_,_,_,_,h1,_⟩|⟨_,h2,_,h1,_⟩
  ·exact h1
  ·rw [h1,h2]
 have fin:∀ (listed:Array Bool) (ρ:cE) (a:Act) (w:World),(∀ k,k < ops.size→listed.getD k false=true)→cC ρ (eS e0 dst V (fun k=>listed.getD k false) ops.size) a.tmps→a.defers=a0.defers →
  (∃ m,m≤ops.size∧bP ρ (H m) w∧(∀ k,k < m→ks.getD k 2 % 3=2→listed.getD k false=true)∧(m=ops.size∨(ks.getD m 2 % 3=2∧listed.getD m false=false)))→Fr ρ0 ρ h0 h' w0 w→Q .normal a w:=by
  intro listed ρ a w aB lO tO ub df
  obtain ⟨m,iL,jX,DO,Gx⟩:=ub
  have Tl:m=ops.size:=by
   rcases Gx with h1|⟨_,h1⟩
   ·exact h1
   ·rcases Nat.lt_or_ge m ops.size with h2|h2
    ·rw [aB m h2] at h1;cases h1
    ·omega
  subst Tl
  rw [zR] at jX
  have heq:∀ k,k≤ops.size→eS e0 dst V (fun k=>listed.getD k false) k=E k:=by
   intro k
   induction k with
   |zero=>intro _;exact nI.symm
   |succ k ih =>
    intro hk
    obtain ⟨o,ho⟩:=gG k (by omega)
    simp only [eS]
    rw [if_pos (aB k (by omega)),ih (by omega),Dx k o ho]
  rw [heq _ (Nat.le_refl _),Wt] at lO
  exact hQ ρ a w df jX lO tO
 have xI:∀ (listed:Array Bool),listed.size=ops.size→Region.ready .any ops listed=[]→∀ k,k < ops.size→listed.getD k false=true:=by
  intro listed Tj hr k
  induction k using Nat.strongRecOn with
  |_ k ih =>
   intro hk
   cases hb:listed.getD k false with
   |true=>rfl
   |false =>
    exfalso
    obtain ⟨o,ho⟩:=gG k hk
    have cd:k∈Region.ready .any ops listed:=by
     rw [mem_ready]
     refine ⟨?_,o,ho,fun e he II=>?_⟩
     ·have:k < listed.size:=by omega
      simp [this] at hb ⊢
      exact hb
     ·have aR:=oa k o ho e (by simpa using he) II
      exact ih e.on aR (by omega)
    rw [hr] at cd
    cases cd
 have main:∀ (fuel:Nat) (listed:Array Bool) (ρ:cE) (a:Act) (w:World),listed.size=ops.size→(List.range ops.size).countP (fun k => !listed.getD k false)≤fuel →
  (∀ (j:Nat) (o:Oper),ops[j]? = some o→listed.getD j false=true→∀ e∈o.after.toList,Region.binds .any e=true→listed.getD e.on false=true) →
  cC ρ (eS e0 dst V (fun k=>listed.getD k false) ops.size) a.tmps→a.defers=a0.defers →
  (∃ m,m≤ops.size∧bP ρ (H m) w∧(∀ k,k < m→ks.getD k 2 % 3=2→listed.getD k false=true)∧(m=ops.size∨(ks.getD m 2 % 3=2∧listed.getD m false=false))) →
  (∀ A L,ρ A=some L→ρ0 A=some L∨∃ j,j < ops.size∧listed.getD j false=true∧(H j).size≤A∧A < (H (j+1)).size) →
  Fr ρ0 ρ h0 h' w0 w→wpAnyIn (WR rl) 0 P .any ops Q fuel listed a w:=by
  intro fuel
  induction fuel with
  |zero =>
   intro listed ρ a w Tj zW mK lO tO ub zX df
   have aB:∀ k,k < ops.size→listed.getD k false=true:=by
    intro k hk
    have h1:=List.countP_eq_zero.1 (Nat.le_zero.1 zW) k (List.mem_range.2 hk)
    simpa using h1
   refine ⟨?_,fin listed ρ a w aB lO tO ub df⟩
   apply List.eq_nil_iff_forall_not_mem.2
   intro i hi
   rw [mem_ready] at hi
   obtain ⟨h1,o,ho,_⟩:=hi
   have aR:i < ops.size:=(Array.getElem?_eq_some_iff.1 ho).1
   have h2:=aB i aR
   have:i < listed.size:=by omega
   simp [this] at h1 h2
   rw [h2] at h1
   cases h1
  |succ fuel ih =>
   intro listed ρ a w Tj zW mK lO tO ub zX df
   refine ⟨fun hr=>fin listed ρ a w (xI listed Tj hr) lO tO ub df,?_⟩
   intro i hi
   rw [mem_ready] at hi
   obtain ⟨rP,o,ho,mQ⟩:=hi
   have rQ:i < ops.size:=(Array.getElem?_eq_some_iff.1 ho).1
   have ID:listed.getD i false=false:=by
    have:i < listed.size:=by omega
    simp [this] at rP ⊢
    exact rP
   have DY:∀ e∈o.after.toList,Region.binds .any e=true→listed.getD e.on false=true:=fun e he hb=>mQ e (by simpa using he) hb
   have qi:∀ k,(listed.setIfInBounds i true).getD k false=(decide (k=i) || listed.getD k false):=by
    intro k
    by_cases hk:k=i
    ·subst hk
     have:k < listed.size:=by omega
     simp [this]
    ·simp [Array.getElem?_setIfInBounds_ne (Ne.symm hk),hk]
   have oY:∀ k ok,k < i→ops[k]? = some ok→listed.getD k false=false→ok.apart ops o=true∧qD (ks.getD k 2) (ks.getD i 2)=true:=by
    intro k ok rS jz hk
    rcases DX k i ok o rS jz ho with h1|h1
    ·have:=zoh (S:=fun j=>listed.getD j false=true) oa mK i i o k (Nat.le_refl _) ho DY h1
     rw [hk] at this
     cases this
    ·exact h1
   have iZ:∀ j oj,i < j→ops[j]? = some oj→listed.getD j false=true→o.apart ops oj=true∧qD (ks.getD i 2) (ks.getD j 2)=true:=by
    intro j oj di qw hj
    rcases DX i j o oj di ho qw with h1|h1
    ·have:=zoh (S:=fun j=>listed.getD j false=true) oa mK j j oj i (Nat.le_refl _) qw (mK j oj qw hj) h1
     rw [ID] at this
     cases this
    ·exact h1
   have DN:∀ t,t∈o.looksAt ops→(eS e0 dst V (fun k=>listed.getD k false) ops.size).get t=(E i).get t:=by
    intro t ht
    have p1:∀ k,k≤i→(eS e0 dst V (fun k=>listed.getD k false) k).get t=(E k).get t:=by
     intro k
     induction k with
     |zero=>intro _;rw [nI];rfl
     |succ k nq =>
      intro hk
      obtain ⟨ok,jz⟩:=gG k (by omega)
      rw [Dx k ok jz]
      simp only [eS]
      split
      ·exact E5 (by rw [Hw,M4 k (by omega)]) (nq (by omega))
      ·rename_i jW
       rw [nq (by omega),Jz]
       intro hd
       have mG:=(Oper.apart_spec (oY k ok (by omega) jz (by simpa using jW)).1).1
       exact mG t (by simpa [dst,jz] using hd) ht
    have p2:∀ k,i≤k→k≤ops.size→(eS e0 dst V (fun k=>listed.getD k false) k).get t=(eS e0 dst V (fun k=>listed.getD k false) i).get t:=by
     intro k tS
     induction tS with
     |refl=>intro _;rfl
     |step tS nq =>
      rename_i k
      intro hk
      obtain ⟨ok,jz⟩:=gG k (by omega)
      simp only [eS]
      split
      ·rename_i jW
       rw [Jz,nq (by omega)]
       intro hd
       have aP:i≠k:=fun e=>by subst e;rw [ID] at jW;cases jW
       have aco:i≤k:=tS
       have mG:=(Oper.apart_spec (iZ k ok (by omega) jz jW).1).2.2
       exact mG t (by simpa [dst,jz] using hd) ht
      ·exact nq (by omega)
    rw [p2 _ (by omega) (Nat.le_refl _),p1 i (Nat.le_refl _)]
   have Oj:∀ x∈o.op.operands.toList,bn (eS e0 dst V (fun k=>listed.getD k false) ops.size) x=bn (E i) x:=by
    intro x hx
    cases x with
    |tmp t=>exact DN t (zqo hx)
    |_=>rfl
   have OI:ma ops o (eS e0 dst V (fun k=>listed.getD k false) ops.size)=ma ops o (E i):=by
    unfold ma
    cases Bq:o.guard with
    |none=>rfl
    |some g =>
     obtain ⟨j,b⟩:=g
     simp only
     cases hdj:(ops[j]?).bind (·.dst) with
     |none=>rfl
     |some t =>
      simp only
      rw [DN t (by unfold Oper.looksAt;rw [List.mem_append];right;simp [Bq,hdj])]
   have NL:∀ t,(eS e0 dst V (fun k=>(listed.setIfInBounds i true).getD k false) ops.size).get t=(put (eS e0 dst V (fun k=>listed.getD k false) ops.size) o.dst (V i)).get t:=by
    intro t
    have hdi:dst i=o.dst:=by simp [dst,ho]
    have p1:∀ k,k≤i→eS e0 dst V (fun k=>(listed.setIfInBounds i true).getD k false) k=eS e0 dst V (fun k=>listed.getD k false) k:=by
     intro k
     induction k with
     |zero=>intro _;rfl
     |succ k nq =>
      intro hk
      have rS:decide (k=i)=false:=by simp;omega
      cases jW:listed.getD k false with
      |true=>rw [Sn (S:=fun k=>(listed.setIfInBounds i true).getD k false) (by show (listed.setIfInBounds i true).getD k false=true;rw [qi k,jW];simp),Sn (S:=fun k=>listed.getD k false) jW,nq (by omega)]
      |false=>rw [Kd (S:=fun k=>(listed.setIfInBounds i true).getD k false) (by show (listed.setIfInBounds i true).getD k false=false;rw [qi k,jW,rS];rfl),Kd (S:=fun k=>listed.getD k false) jW,nq (by omega)]
    have p2:∀ k,i+1≤k→k≤ops.size→(eS e0 dst V (fun k=>(listed.setIfInBounds i true).getD k false) k).get t=(put (eS e0 dst V (fun k=>listed.getD k false) k) o.dst (V i)).get t:=by
     intro k tS
     induction tS with
     |refl =>
      intro _
      rw [Sn (S:=fun k=>(listed.setIfInBounds i true).getD k false) (by show (listed.setIfInBounds i true).getD i false=true;rw [qi i];simp),p1 i (Nat.le_refl _),Kd (S:=fun k=>listed.getD k false) ID,hdi]
     |step tS nq =>
      rename_i k
      intro hk
      have aco:i+1≤k:=tS
      obtain ⟨ok,jz⟩:=gG k (by omega)
      have rS:decide (k=i)=false:=by simp;omega
      have AE:=nq (by omega)
      cases jW:listed.getD k false with
      |true =>
       rw [Sn (S:=fun k=>(listed.setIfInBounds i true).getD k false) (by show (listed.setIfInBounds i true).getD k false=true;rw [qi k,jW];simp),Sn (S:=fun k=>listed.getD k false) jW]
       have mG:=(Oper.apart_spec (iZ k ok (by omega) jz jW).1).2.1
       have hdk:dst k=ok.dst:=by simp [dst,jz]
       have hlen:(eS e0 dst V (fun k=>(listed.setIfInBounds i true).getD k false) k).length=(eS e0 dst V (fun k=>listed.getD k false) k).length:=by rw [Hw,Hw]
       by_cases Bj:o.dst=some t
       ·have aP:dst k≠some t:=by rw [hdk];exact fun e=>mG t Bj e
        rw [Jz aP,AE]
        exact E5 (by rw [W8]) (Jz aP).symm
       ·rw [Jz Bj] at AE
        rw [Jz Bj]
        exact E5 hlen AE
      |false =>
       rw [Kd (S:=fun k=>(listed.setIfInBounds i true).getD k false) (by show (listed.setIfInBounds i true).getD k false=false;rw [qi k,jW,rS];rfl),Kd (S:=fun k=>listed.getD k false) jW]
       exact AE
    exact p2 _ (by omega) (Nat.le_refl _)
   have wV:(listed.setIfInBounds i true).size=ops.size:=by simp [Tj]
   have qk:(List.range ops.size).countP (fun k => !(listed.setIfInBounds i true).getD k false)≤fuel:=by
    have:=znt (p:=fun k => !listed.getD k false) (p':=fun k => !(listed.setIfInBounds i true).getD k false) (List.range ops.size)
     (fun k _ hk=>by rw [qi k] at hk;simp at hk ⊢;exact hk.2) ⟨i,List.mem_range.2 rQ,by rw [ID];rfl,by rw [qi i];simp⟩
    omega
   have mL:∀ (j:Nat) (oj:Oper),ops[j]? = some oj→(listed.setIfInBounds i true).getD j false=true→∀ e∈oj.after.toList,Region.binds .any e=true→(listed.setIfInBounds i true).getD e.on false=true:=by
    intro j oj qw hj e he hb
    rw [qi e.on]
    rw [qi j] at hj
    by_cases ke:j=i
    ·subst ke
     rw [ho] at qw
     cases qw
     rw [DY e he hb]
     simp
    ·have hj':listed.getD j false=true:=by simpa [ke] using hj
     rw [mK j oj qw hj' e he hb]
     simp
   have qp:∀ (ρ':cE) (u:Value),(∀ A L,ρ A=some L→ρ' A=some L)→VR ρ' (V i) u→cC ρ' (eS e0 dst V (fun k=>(listed.setIfInBounds i true).getD k false) ops.size) (a.put o.dst u).tmps:=by
    intro ρ' u Br hv
    have h1:=(lO.mono Br).put hv o.dst
    exact ⟨by rw [Hw,← h1.1,W8,Hw],fun t=>by rw [NL t];exact h1.2 t⟩
   have qo:∀ u,(a.put o.dst u).defers=a0.defers:=fun u=>by cases o.dst <;> exact tO
   obtain ⟨m,iL,jX,DO,Gx⟩:=ub
   /- an operation that looks at no memory -/
   have mZ:ks.getD i 2 % 3≠2→∀ (ρ':cE) (w':World),bP ρ' (H m) w'→∃ m,m≤ops.size∧bP ρ' (H m) w'∧(∀ k,k < m→ks.getD k 2 % 3=2→(listed.setIfInBounds i true).getD k false=true)∧(m=ops.size∨(ks.getD m 2 % 3=2∧(listed.setIfInBounds i true).getD m false=false)):=by
    intro sK ρ' w' dL
    refine ⟨m,iL,dL,fun k h1 h2=>by rw [qi k,DO k h1 h2];simp,?_⟩
    rcases Gx with h1|⟨h1,h2⟩
    ·exact .inl h1
    ·refine .inr ⟨h1,?_⟩
     have:m≠i:=fun e=>by rw [e] at h1;exact sK h1
     rw [qi m,h2]
     simp [this]
   have ku:∀ (ρ':cE),(∀ A L,ρ' A=some L→ρ A=some L∨((H i).size≤A∧A < (H (i+1)).size)) →
    ∀ A L,ρ' A=some L→ρ0 A=some L∨∃ j,j < ops.size∧(listed.setIfInBounds i true).getD j false=true∧(H j).size≤A∧A < (H (j+1)).size:=by
    intro ρ' xv A L hA
    rcases xv A L hA with h1|h1
    ·rcases zX A L h1 with h2|⟨j,h2,h3,h4⟩
     ·exact .inl h2
     ·exact .inr ⟨j,h2,by rw [qi j,h3];simp,h4⟩
    ·exact .inr ⟨i,rQ,by rw [qi i];simp,h1⟩
   have o9:∀ A,(H i).size≤A→A < (H (i+1)).size→ρ A=none:=by
    intro A h1 h2
    cases hA:ρ A with
    |none=>rfl
    |some L =>
     exfalso
     rcases zX A L hA with h3|⟨j,h3,h4,h5,h6⟩
     ·have h7:=(dn 0 i (by omega) (by omega)).size
      have h8:=(dn (i+1) ops.size (by omega) (Nat.le_refl _)).size
      rw [tI] at h7
      rw [zR] at h8
      rw [Bo A (by omega) (by omega)] at h3
      cases h3
     ·have ke:j≠i:=fun e=>by subst e;rw [ID] at h4;cases h4
      rcases Nat.lt_or_ge j i with aR|kQ
      ·have:=(dn (j+1) i (by omega) (by omega)).size
       omega
      ·have:=(dn (i+1) j (by omega) (by omega)).size
       omega
   unfold wpOpIn
   simp only [ho]
   rw [zpm lO,OI]
   rcases qy i o ho with ⟨je,h2,mM,S9,_,hk⟩|⟨je,hv,S9,_,hk⟩
   ·rw [if_pos je]
    have sM:kZ ρ o:=(dy o (by simpa using Array.mem_of_getElem? ho)).mono df.grow
    have hG:=hG0.mono df.grow
    have Aa:∀ hx,iQ P T C (eS e0 dst V (fun k=>listed.getD k false) ops.size) o hx=iQ P T C (E i) o hx:=fun hx=>znJ hx Oj
    by_cases hb:oA T o=true
    ·rw [zgC hb] at hk
     have Gd:=(MQ hb mM).2 (H m)
     have jW:ks.getD i 2 % 3≠2:=by omega
     have xh:=Ju (h':=H m) hT hC hG jX lO sM (fun A h1 h2=>by omega) (by rw [Aa];exact Gd)
     refine xh.wp (Jt mM) fun ρ' u w' f1 s1 v1=>?_
     have iE:∀ A L,ρ' A=some L→ρ A=some L:=by
      intro A L hA
      cases hρ:ρ A with
      |some L1=>have:=f1.grow A L1 hρ;rw [hA] at this;exact this.symm
      |none=>have:=f1.fresh A L hA hρ;omega
     refine ih _ ρ' _ w' wV qk mL (qp ρ' u f1.grow v1) (qo u) (mZ jW ρ' w' s1) (ku ρ' fun A L hA=>.inl (iE A L hA)) ?_
     have k1:=dn m ops.size iL (Nat.le_refl _)
     have k2:=dn 0 m (by omega) iL
     rw [zR] at k1
     rw [tI] at k2
     exact df.step f1 k1.low k1.size k2.size
    ·have kI:=dn i ops.size (by omega) (Nat.le_refl _)
     have Tw:=dn (i+1) ops.size (by omega) (Nat.le_refl _)
     have Tv:=dn 0 i (by omega) (by omega)
     rw [zR] at kI Tw
     rw [tI] at Tv
     have nK:(H (i+1)).size=h2.size:=by rw [S9]
     have sL:h'.low≤h2.low:=by
      have h3:=Tw.low
      rw [S9] at h3
      exact Nat.le_trans h3 (Nat.min_le_right _ _)
     have wL:∀ A,(H (i+1)).get A=h2.get A:=fun A=>by rw [S9];rfl
     by_cases ey:(H i).size≤h2.low
     ·/- it turns nothing that is there -/
      obtain ⟨pc,sK,wS⟩:=TE (T:=T) (e:=E i) hb ey
      rw [← hk] at pc sK wS
      have tT:i < m:=by
       rcases Gx with h3|⟨h3,h4⟩
       ·omega
       ·rcases Nat.lt_or_ge i m with h5|h5
        ·exact h5
        ·exfalso
         have aP:m≠i:=fun e=>by rw [e] at h3;exact pc h3
         obtain ⟨om,Oi⟩:=gG m (by omega)
         exact sK (Xo h3 (oY m om (by omega) Oi h4).2)
      have sP:∀ k,i≤k→k < m→ks.getD k 2 % 3=2→5≤ks.getD k 2∧((ks.getD i 2 % 3=0∧3≤ks.getD i 2∧ks.getD i 2+2≠ks.getD k 2)∨(ks.getD i 2 % 3=1∧3≤ks.getD i 2∧ks.getD k 2+2≤ks.getD i 2)):=by
       intro k h3 h4 h5
       have aP:k≠i:=fun e=>by rw [e] at h5;exact pc h5
       have h6:=DO k h4 h5
       obtain ⟨ok,jz⟩:=gG k (by omega)
       rcases zvr h5 (iZ k ok (by omega) jz h6).2 with h8|h8
       ·exact (sK h8).elim
       ·exact h8
      have zV:∀ (B j:Nat),i≤j→j≤m→B < (H j).size→(∀ k,i≤k→k < m→ks.getD k 2 % 3=2→5+3*B≠ks.getD k 2)→(H m).get B=(H j).get B:=by
       intro B j h3 h4 h5 h6
       have hx:∀ d,j+d≤m→(H (j+d)).get B=(H j).get B:=by
        intro d
        induction d with
        |zero=>intro _;rfl
        |succ d OK =>
         intro hd
         obtain ⟨ok,jz⟩:=gG (j+d) (by omega)
         have h7:=OK (by omega)
         have h8:B < (H (j+d)).size:=Nat.lt_of_lt_of_le h5 (dn j (j+d) (by omega) (by omega)).size
         rw [← h7]
         by_cases h9:ks.getD (j+d) 2 % 3=2
         ·exact (qy (j+d) ok jz).other h9 (sP (j+d) (by omega) (by omega) h9).1 B (h6 (j+d) (by omega) (by omega) h9)
         ·exact (qy (j+d) ok jz).same hg h9 B h8
       have h7:=hx (m - j) (by omega)
       rwa [show j+(m - j)=m by omega] at h7
      by_cases od:∃ t a x,o.op=.load t a∧bn (E i) a=.pointer (some x)∧ks.getD i 2=3+3*x.block
      ·obtain ⟨t,a',x,aV,hx,hkv⟩:=od
       have Gd:iQ P T C (E i) o (H m)=some (V i,H m):=by
        unfold iQ at mM ⊢
        simp only [aV,hx,Option.map_eq_some_iff,Prod.mk.injEq] at mM ⊢
        obtain ⟨r,hr,h3,_⟩:=mM
        refine ⟨r,?_,h3,trivial⟩
        have aR:x.block < (H i).size:=zzf hr
        rw [zql (h:={ H i with low:=(H i).size }) (by rw [Heap.mf];exact zV x.block i (Nat.le_refl _) (by omega) aR (fun k h4 h5 h6=>by have:=(sP k h4 h5 h6).2;omega))]
        exact hr
       have xh:=Ju (h':=H m) hT hC hG jX lO sM (fun A h1 h2=>by omega) (by rw [Aa];exact Gd)
       refine xh.wp (Jt mM) fun ρ' u w' f1 s1 v1=>?_
       have iE:∀ A L,ρ' A=some L→ρ A=some L:=by
        intro A L hA
        cases hρ:ρ A with
        |some L1=>have:=f1.grow A L1 hρ;rw [hA] at this;exact this.symm
        |none=>have:=f1.fresh A L hA hρ;omega
       refine ih _ ρ' _ w' wV qk mL (qp ρ' u f1.grow v1) (qo u) (mZ pc ρ' w' s1) (ku ρ' fun A L hA=>.inl (iE A L hA)) ?_
       have k1:=dn m ops.size iL (Nat.le_refl _)
       have k2:=dn 0 m (by omega) iL
       rw [zR] at k1
       rw [tI] at k2
       exact df.step f1 k1.low k1.size k2.size
      have acC:∃ hx FT:Heap,hx.size=(H i).size∧bP ρ hx w∧iQ P T C (E i) o hx=some (V i,FT)∧FT.size=h2.size∧h'.low≤FT.low∧(H i).size≤FT.low∧∀ A,(H i).size≤A→A < h2.size→(H m).get A=FT.get A:=by
       rcases wS with h3|h3|⟨⟨t,n,ps,aV⟩,hkv⟩
       ·have lR:∀ k,i≤k→k < m→ks.getD k 2 % 3≠2:=by
         intro k h4 h5 h6
         have:=(sP k h4 h5 h6).2
         omega
        have hgI:∀ A,A < (H i).size→(H m).get A=(H i).get A:=iE i m (by omega) iL lR
        have Gm:∀ A,A < (H (i+1)).size→(H m).get A=(H (i+1)).get A:=iE (i+1) m (by omega) iL (fun k h3 h4=>lR k (by omega) h4)
        refine ⟨{ H i with low:=(H i).size },h2,rfl,?_,mM,rfl,sL,ey,fun A h4 h5=>by rw [Gm A (by omega),wL A]⟩
        refine jX.swap fun A L hA=>?_
        rw [Heap.mf]
        rcases Nat.lt_or_ge A (H i).size with h3|h3
        ·exact .inl (hgI A h3).symm
        ·right
         unfold Heap.get
         rw [if_neg (by omega)]
       ·exact (od h3).elim
       ·have asv:=(dn i m (by omega) iL).size
        have Ge:=mM
        unfold iQ at Ge
        simp only [aV] at Ge
        obtain ⟨b,pI,F5⟩:=ziX (h1:=(⟨(H i).size,(H m).tr,(H i).size⟩:Heap)) Ge rfl
        have wU:h2.low=(H i).size:=by rw [pI];rfl
        have Ax:h2.size=(H i).size+1:=by rw [pI];rfl
        refine ⟨⟨(H i).size,(H m).tr,(H i).size⟩,_,rfl,?_,by unfold iQ;simp only [aV];exact F5,by rw [Ax];rfl,by rw [wU] at sL;exact sL,Nat.le_refl _,fun A h4 h5=>?_⟩
        ·refine jX.swap fun A L hA=>?_
         unfold Heap.get
         rcases Nat.lt_or_ge A (H i).size with h3|h3
         ·left
          rw [if_pos h3,if_pos (by omega)]
         ·right
          rw [if_neg (show ¬ A < (H i).size by omega)]
        ·have hA:A=(H i).size:=by omega
         subst hA
         rw [zV _ (i+1) (by omega) (by omega) (by rw [nK,Ax];omega) (fun k h6 h7 h8=>by have:=(sP k h6 h7 h8).2;omega),wL,pI,Heap.bu,Heap.bu,if_pos rfl,if_pos rfl]
      obtain ⟨hx,FT,kT,xj,ab3,h2s,wU,aci,hN⟩:=acC
      have xh:=Ju (h':=FT) hT hC hG xj lO sM (fun A h3 h4=>o9 A (by omega) (by omega)) (by rw [Aa];exact ab3)
      refine xh.wp (Jt mM) fun ρ' u w' f1 s1 v1=>?_
      have jx:∀ A L,ρ' A=some L→ρ A=none→(H i).size≤A∧A < h2.size∧w.heap.size≤L.b:=by
       intro A L hA hn
       obtain ⟨h3,h4,h5⟩:=f1.fresh A L hA hn
       refine ⟨by omega,by omega,?_⟩
       rcases h5 with h5|⟨A0,L0,h6,_,h7,h8⟩
       ·exact h5
       ·rw [o9 A0 (by omega) (by omega)] at h6
        cases h6
      have G1:∀ b,b < w.heap.size→w'.heap[b]? = w.heap[b]? := by
       intro b lB
       refine f1.keep b lB fun A L hA _=>?_
       rcases Nat.lt_or_ge A (H i).size with h3|h3
       ·left;omega
       ·right
        rcases Nat.lt_or_ge A h2.size with h4|h4
        ·rw [o9 A h3 (by omega)] at hA;cases hA
        ·omega
      have xi:bP ρ' (H m) w':=by
       refine ⟨fun A L hA=>?_,fun A A' L L' hA ei aP mg=>?_⟩
       ·cases hρ:ρ A with
        |none =>
         obtain ⟨h3,h4,_⟩:=jx A L hA hρ
         rw [hN A h3 h4]
         exact s1.fG A L hA
        |some L1 =>
         have e:L1=L:=by have:=f1.grow A L1 hρ;rw [hA] at this;exact (Option.some.inj this).symm
         subst e
         exact (jX.fG A L1 hρ).keep f1.grow f1.size fun _=>G1 L1.b (jX.lt hρ)
       ·cases hρ:ρ A with
        |none =>
         obtain ⟨h3,h4,h5⟩:=jx A L hA hρ
         cases xv:ρ A' with
         |none =>
          obtain ⟨h6,h7,h8⟩:=jx A' L' ei xv
          have hx:=s1.inj A A' L L' hA ei aP mg
          unfold live mT at hx ⊢
          rw [hN A h3 h4,hN A' h6 h7]
          exact hx
         |some L1 =>
          have e:L1=L':=by have:=f1.grow A' L1 xv;rw [ei] at this;exact (Option.some.inj this).symm
          subst e
          have:=jX.lt xv
          omega
        |some L1 =>
         have e:L1=L:=by have:=f1.grow A L1 hρ;rw [hA] at this;exact (Option.some.inj this).symm
         subst e
         cases xv:ρ A' with
         |none =>
          obtain ⟨h6,h7,h8⟩:=jx A' L' ei xv
          have:=jX.lt hρ
          omega
         |some L2 =>
          have e:L2=L':=by have:=f1.grow A' L2 xv;rw [ei] at this;exact (Option.some.inj this).symm
          subst e
          exact jX.inj A A' L1 L2 hρ xv aP mg
      refine ih _ ρ' _ w' wV qk mL (qp ρ' u f1.grow v1) (qo u) ?_ (ku ρ' fun A L hA=>?_) (df.step f1 wU (by have:=Tw.size;omega) (by rw [kT];exact Tv.size))
      ·refine ⟨m,iL,xi,fun k h3 h4=>by rw [qi k,DO k h3 h4];simp,?_⟩
       rcases Gx with h3|⟨h3,h4⟩
       ·exact .inl h3
       ·refine .inr ⟨h3,?_⟩
        rw [qi m,h4,show decide (m=i)=false by simp;omega]
        rfl
      ·cases hρ:ρ A with
       |none=>right;have:=jx A L hA hρ;omega
       |some L1=>left;have:=f1.grow A L1 hρ;rw [hA] at this;rw [this]
     ·obtain ⟨pc,_⟩:=W2 (T:=T) (e:=E i) hb ey
      rw [← hk] at pc
      /- it may turn what is there: it stands between all others -/
      have YD:m=i:=by
       rcases Nat.lt_trichotomy m i with h3|h3|h3
       ·exfalso
        rcases Gx with h4|⟨h4,h5⟩
        ·omega
        ·obtain ⟨om,Oi⟩:=gG m (by omega)
         have:=Xo h4 (oY m om h3 Oi h5).2
         omega
       ·exact h3
       ·have:=DO i h3 pc
        rw [ID] at this
        cases this
      subst YD
      have xj:bP ρ { H m with low:=(H m).size } w:=jX.swap fun A L _=>.inl rfl
      have xh:=Ju (h':=h2) hT hC hG xj lO sM (fun A h3 h4=>o9 A h3 (by omega)) (by rw [Aa];exact mM)
      refine xh.wp (Jt mM) fun ρ' u w' f1 s1 v1=>?_
      /- the next that may turn something -/
      have Od:∃ m',m+1≤m'∧m'≤ops.size∧(∀ k,m+1≤k→k < m'→ks.getD k 2 % 3≠2)∧(m'=ops.size∨ks.getD m' 2 % 3=2):=by
       have hx:∀ d,d≤ops.size - (m+1)→(∀ k,m+1≤k→k < m+1+d→ks.getD k 2 % 3≠2)∨∃ m',m+1≤m'∧m'≤ops.size∧(∀ k,m+1≤k→k < m'→ks.getD k 2 % 3≠2)∧(m'=ops.size∨ks.getD m' 2 % 3=2):=by
        intro d
        induction d with
        |zero=>intro _;left;intro k h3 h4;omega
        |succ d OK =>
         intro hd
         rcases OK (by omega) with h3|h3
         ·by_cases h4:ks.getD (m+1+d) 2 % 3=2
          ·exact .inr ⟨m+1+d,by omega,by omega,h3,.inr h4⟩
          ·left
           intro k h5 h6
           by_cases h7:k=m+1+d
           ·rw [h7];exact h4
           ·exact h3 k h5 (by omega)
         ·exact .inr h3
       rcases hx (ops.size - (m+1)) (Nat.le_refl _) with h3|h3
       ·exact ⟨ops.size,by omega,Nat.le_refl _,fun k h4 h5=>h3 k h4 (by omega),.inl rfl⟩
       ·exact h3
      obtain ⟨m',acA,Gw,N1,acB⟩:=Od
      have Gm:∀ A,A < (H (m+1)).size→(H m').get A=(H (m+1)).get A:=iE (m+1) m' acA Gw N1
      have zY:∀ A L,ρ A=some L→A < h2.size∨(ρ0 A=some L∧h'.size≤A):=by
       intro A L hA
       rcases zX A L hA with h3|⟨j,h3,h4,h5,h6⟩
       ·rcases Nat.lt_or_ge A h2.size with h7|h7
        ·exact .inl h7
        ·rcases Nat.lt_or_ge A h'.size with h8|h8
         ·have h9:=Tv.size
          have h10:=(dn m (m+1) (by omega) (by omega)).size
          rw [Bo A (by omega) h8] at h3
          cases h3
         ·exact .inr ⟨h3,h8⟩
       ·left
        rcases Nat.lt_or_ge j (m+1) with h7|h7
        ·have:=(dn (j+1) (m+1) (by omega) (by omega)).size
         omega
        ·exfalso
         obtain ⟨oj,qw⟩:=gG j h3
         have h9:ks.getD j 2=0:=Xo pc (iZ j oj (by omega) qw h4).2
         have:=((qy j oj qw).still h9).1
         omega
      have xi:bP ρ' (H m') w':=by
       refine s1.swap fun A L hA=>?_
       have ei:A < h2.size∨h'.size≤A:=by
        cases hρ:ρ A with
        |none=>left;exact (f1.fresh A L hA hρ).2.1
        |some L1 =>
         rcases zY A L1 hρ with h3|h3
         ·exact .inl h3
         ·exact .inr h3.2
       rcases ei with h3|h3
       ·left
        rw [Gm A (by omega),wL A]
       ·right
        have h4:=(dn m' ops.size Gw (Nat.le_refl _)).size
        rw [zR] at h4
        unfold Heap.get
        rw [if_neg (by omega)]
      refine ih _ ρ' _ w' wV qk mL (qp ρ' u f1.grow v1) (qo u) ⟨m',Gw,xi,?_,?_⟩ (ku ρ' fun A L hA=>?_) (df.step f1 sL (by have:=Tw.size;omega) Tv.size)
      ·intro k h3 h4
       rw [qi k]
       rcases Nat.lt_or_ge k (m+1) with h5|h5
       ·by_cases h6:k=m
        ·simp [h6]
        ·rw [DO k (by omega) h4];simp
       ·exact (N1 k h5 h3 h4).elim
      ·rcases acB with h3|h3
       ·exact .inl h3
       ·rcases Nat.lt_or_ge m' ops.size with h4|h4
        ·refine .inr ⟨h3,?_⟩
         rw [qi m',show decide (m'=m)=false by simp;omega,Bool.false_or]
         cases lB:listed.getD m' false with
         |false=>rfl
         |true =>
          exfalso
          obtain ⟨om,Oi⟩:=gG m' h4
          have:=Xo pc (iZ m' om (by omega) Oi lB).2
          omega
        ·exact .inl (by omega)
      ·cases hρ:ρ A with
       |none =>
        right
        obtain ⟨h3,h4,_⟩:=f1.fresh A L hA hρ
        have yj:(H m).size≤A:=h3
        omega
       |some L1=>left;have:=f1.grow A L1 hρ;rw [hA] at this;rw [this]
   ·rw [if_neg (by rw [je];simp)]
    refine ⟨fun _ _=>trivial,?_⟩
    have hu:VR ρ (V i) undef:=by rw [hv];exact .undef ρ
    exact ih _ ρ _ w wV qk mL (qp ρ undef (fun _ _ h=>h) hu) (qo undef) (mZ (by omega) ρ w jX) (ku ρ fun A L hA=>.inl hA) df
 have sK:=dn 0 ops.size (by omega) (Nat.le_refl _)
 rw [tI,zR] at sK
 have rN:∀ k,(Array.replicate ops.size false).getD k false=false:=by
  intro k
  rcases Nat.lt_or_ge k ops.size with h1|h1 <;> simp [h1]
 have qu:∀ k,eS e0 dst V (fun k=>(Array.replicate ops.size false).getD k false) k=e0:=by
  intro k
  induction k with
  |zero=>rfl
  |succ k ih=>rw [Kd (S:=fun k=>(Array.replicate ops.size false).getD k false) (rN k),ih]
 refine main ops.size _ ρ0 a0 _ (by simp) (by have:=List.countP_le_length (p:=fun k => !(Array.replicate ops.size false).getD k false) (l:=List.range ops.size);simpa using this) ?_ ?_ rfl ?_ ?_ ?_
 ·intro j o _ hj
  rw [rN j] at hj
  cases hj
 ·rw [qu];exact Bk
 ·/- the first that may turn something -/
  have Gh:∃ m,m≤ops.size∧(∀ k,k < m→ks.getD k 2 % 3≠2)∧(m=ops.size∨ks.getD m 2 % 3=2):=by
   have hx:∀ d,d≤ops.size→(∀ k,k < d→ks.getD k 2 % 3≠2)∨∃ m,m≤ops.size∧(∀ k,k < m→ks.getD k 2 % 3≠2)∧(m=ops.size∨ks.getD m 2 % 3=2):=by
    intro d
    induction d with
    |zero=>intro _;left;intro k h4;omega
    |succ d OK =>
     intro hd
     rcases OK (by omega) with h3|h3
     ·by_cases h4:ks.getD d 2 % 3=2
      ·exact .inr ⟨d,by omega,h3,.inr h4⟩
      ·left
       intro k h6
       by_cases h7:k=d
       ·rw [h7];exact h4
       ·exact h3 k (by omega)
     ·exact .inr h3
   rcases hx ops.size (Nat.le_refl _) with h3|h3
   ·exact ⟨ops.size,Nat.le_refl _,h3,.inl rfl⟩
   ·exact h3
  obtain ⟨m,iL,jX,DO⟩:=Gh
  refine ⟨m,iL,?_,fun k h1 h2=>(jX k h1 h2).elim,?_⟩
  ·have lS:bP ρ0 h0 { w0 with drawn:=w0.drawn+1 }:=yx.same rfl
   refine lS.swap fun A L hA=>?_
   rcases Nat.lt_or_ge A h0.size with h1|h1
   ·left
    have:=iE 0 m (by omega) iL (fun k _ h3=>jX k h3) A (by rw [tI];exact h1)
    rw [this,tI]
   ·rcases Nat.lt_or_ge A h'.size with h2|h2
    ·rw [Bo A h1 h2] at hA;cases hA
    ·right
     have h4:=(dn m ops.size iL (Nat.le_refl _)).size
     rw [zR] at h4
     unfold Heap.get
     rw [if_neg (by omega)]
  ·rcases DO with h1|h1
   ·exact .inl h1
   ·exact .inr ⟨h1,rN m⟩
 ·intro A L hA;exact .inl hA
 ·exact ⟨fun _ _ h=>h,fun A L h1 h2=>(by rw [h1] at h2;cases h2),rfl,rfl,rfl,Nat.le_refl _,sK.size,sK.low,fun _ _ _=>rfl,sK.get⟩
end
end Go.Am
namespace Go.Am
open Go.RowKit

abbrev Ov:=FuncId→Option (List Value→Heap→Option (Value × Heap))

def eE:Env→List Tmp→List Value→Env
 |e,t::ts,v::vs=>eE (e.set t v) ts vs
 |e,_,_=>e
def xT (A:Nat) (jump:Option Code) (h:Heap):Option (Value × Heap) :=
 match h.get A with
 |some (.loop env ps assign body _ _)=>some (.bool jump.isNone,h.set A (.loop env ps assign body (if jump.isNone then .ready else .done) jump))
 |_=>none
def EJ (E:Code→Env→Heap→Option (Ex × Env × Heap)) (A:Nat) (args:List Value) (h:Heap):Option (Value × Heap) :=
 match h.get A with
 |some (.loop env ps assign body _ _) =>
  if args.length=ps.length then
   match E assign (eE env ps args) h with
   |some (.normal,e1,h1)=>match h1.get A with
    |some (.loop oQ AV oJ mu .ready jf) =>
     (match E body e1 (h1.set A (.loop oQ AV oJ mu .busy jf)) with
     |some (.normal,_,h2)=>xT A none h2
     |some (.ret,_,h2)=>xT A (some .ret) h2
     |some (.exit id,_,h2)=>xT A (some (.exit id)) h2
     |none=>none)
    |_=>none
   |_=>none
  else none
 |_=>none

/-! ### A function that defers one call -/
def UL (d:Oper):Option Tmp:=match d.op with
 | .defer ⟨.value (.tmp t),args,_⟩=>if args.isEmpty && d.guard.isNone && d.dst.isNone then some t else none
 |_=>none
def xZ:Code→Option (List Code × Oper × Tmp × Code)
 | .seq (.region id ops false) b=>(match ops.toList with
  | [m,d]=>(match UL d with
   |some t=>if m.guard.isNone then some ([],m,t,b) else (xZ b).map fun (pre,m,t,r)=>(.region id ops false::pre,m,t,r)
   |none=>(xZ b).map fun (pre,m,t,r)=>(.region id ops false::pre,m,t,r))
  |_=>(xZ b).map fun (pre,m,t,r)=>(.region id ops false::pre,m,t,r))
 | .seq a b=>(xZ b).map fun (pre,m,t,r)=>(a::pre,m,t,r)
 |_=>none
def uL (E:Code→Env→Heap→Option (Ex × Env × Heap)):List Code→Env→Heap→Option (Env × Heap)
 | [],e,h=>some (e,h)
 |c::cs,e,h=>match E c e h with
  |some (.normal,e',h')=>uL E cs e' h'
  |_=>none
section
variable (P:Program) (T:bK)
def sj (E:Code→Env→Heap→Option (Ex × Env × Heap)) (fn:Func) (g:Value) (e3:Env) (h3:Heap):Option (Value × Heap) :=
 match g with
 | .func (.func g) fi ca=>(T.fn g).bind fun fg=>fg.body.bind fun cg=>if kN cg then
  (match E cg ((fi.toList++ca.toList)++List.replicate (fg.ntmps - (fi.toList++ca.toList).length) undef) h3 with
  |some (.ret,e4,h4)=>(mj T fg e4 h4).bind fun _=>(mj T fn e3 h4).map fun v=>(v,h4)
  |some (.normal,e4,h4)=>(mj T fg e4 h4).bind fun _=>(mj T fn e3 h4).map fun v=>(v,h4)
  |_=>none)
  else none
 |_=>none
def C8 (E:Code→Env→Heap→Option (Ex × Env × Heap)) (C:Fn→List Value→Heap→Option (Value × Heap)) (fn:Func) (c:Code) (e:Env) (h:Heap):Option (Value × Heap) :=
 (xZ c).bind fun (pre,m,t,rest)=>if pre.all kN && kN rest then
  (uL E pre e h).bind fun (e1,h1)=>(iQ P T C e1 m h1).bind fun (v,h2) =>
   match E rest (put e1 m.dst v) h2 with
   |some (.ret,e3,h3)=>sj T E fn ((put e1 m.dst v).get t) e3 h3
   |some (.normal,e3,h3)=>sj T E fn ((put e1 m.dst v).get t) e3 h3
   |_=>none
 else none
end

def call (P:Program) (T:bK) (ov:Ov):Nat→Fn→List Value→Heap→Option (Value × Heap)
 |0,_,_,_=>none
 |n+1,.func f,args,h =>
  match ov f with
  |some g=>g args h
  |none =>
   (T.fn f).bind fun fn=>fn.body.bind fun c =>
   if T.FA f then C8 P T (dQ P T (call P T ov n) (nU P T (call P T ov n)) none n) (call P T ov n) fn c (args++List.replicate (fn.ntmps - args.length) undef) h else
   match dQ P T (call P T ov n) (nU P T (call P T ov n)) none n c (args++List.replicate (fn.ntmps - args.length) undef) h with
   |some (.ret,e,h')=>(mj T fn e h').map fun v=>(v,h')
   |some (.normal,e,h')=>(mj T fn e h').map fun v=>(v,h')
   |_=>none
 |n+1,.yield A,args,h=>EJ (dQ P T (call P T ov n) (nU P T (call P T ov n)) (some A) n) A args h
 |_,_,_,_=>none

def Dk (P:Program) (gs:List Nat) (ov:Ov):Prop :=
 ∀ f g,ov f=some g→∀ args h v h',g args h=some (v,h')→bw h h'∧∀ ρ w (aG:Array Value),da gs ρ→bP ρ h w→fI ρ h h'→cD ρ args aG.toList→Ca P ρ h h' w v f aG

section
variable {P:Program} {T:bK} {ov:Ov}

theorem zkp {C:Fn→List Value→Heap→Option (Value × Heap)} (hg:tm C) {ops:Array Oper} (l:List Oper) (e e':Env) (h h':Heap) (ks:List Nat) (ak:rh P T C ops l e h=some (ks,e',h')):bw h h':=by
 induction l generalizing e h ks with
 |nil=>simp only [rh,Option.some.injEq,Prod.mk.injEq] at ak;obtain ⟨_,_,rfl⟩:=ak;exact .refl _
 |cons o l ih =>
  simp only [rh] at ak
  split at ak
  ·split at ak
   ·rename_i v h2 hr
    simp only [Option.map_eq_some_iff,Prod.exists,Prod.mk.injEq] at ak
    obtain ⟨gA,x1,x2,bz,_,rfl,rfl⟩:=ak
    have hk:=Hu hg hr
    refine bw.trans ?_ (ih _ _ _ bz)
    exact ⟨hk.size,Nat.min_le_left _ _,fun A h3 h4=>hk.get A h3 (Nat.lt_of_lt_of_le h4 (Nat.min_le_right _ _))⟩
   ·cases ak
  ·simp only [Option.map_eq_some_iff,Prod.exists,Prod.mk.injEq] at ak
   obtain ⟨gA,x1,x2,bz,_,rfl,rfl⟩:=ak
   exact ih _ _ _ bz

theorem Hs {C:Fn→List Value→Heap→Option (Value × Heap)} (hg:tm C):U2 (nU P T C):=by
 intro ops e h e' h' ak
 unfold nU at ak
 split at ak
 ·rename_i hr
  split at ak
  ·cases ak;exact zkp hg _ _ _ _ _ _ hr
  ·cases ak
 ·cases ak

theorem Wz {A:Nat} {jump:Option Code} {h h':Heap} {v:Value} (ak:xT A jump h=some (v,h')):bw h h':=by
 unfold xT at ak
 split at ak
 ·rename_i hg;cases ak;exact .set _ (Heap.bD hg)
 ·cases ak
theorem zoM {E:Code→Env→Heap→Option (Ex × Env × Heap)} (hE:∀ c e h x e' h',E c e h=some (x,e',h')→bw h h') {A:Nat} {args:List Value} {h h':Heap} {v:Value} (ak:EJ E A args h=some (v,h')):bw h h':=by
 unfold EJ at ak
 split at ak
 ·split at ak
  ·split at ak
   ·rename_i h1 As
    split at ak
    ·rename_i yq
     have hk:∀ b,bw h (h1.set A b):=fun b=>(hE _ _ _ _ _ _ As).trans (bw.set b (Heap.bD yq))
     split at ak
     ·rename_i jb;exact ((hk _).trans (hE _ _ _ _ _ _ jb)).trans (Wz ak)
     ·rename_i jb;exact ((hk _).trans (hE _ _ _ _ _ _ jb)).trans (Wz ak)
     ·rename_i jb;exact ((hk _).trans (hE _ _ _ _ _ _ jb)).trans (Wz ak)
     ·cases ak
    ·cases ak
   ·cases ak
  ·cases ak
 ·cases ak

theorem WG {E:Code→Env→Heap→Option (Ex × Env × Heap)} (hE:∀ c e h x e' h',E c e h=some (x,e',h')→bw h h'):∀ (pre:List Code) (e e':Env) (h h':Heap),uL E pre e h=some (e',h')→bw h h'
 | [],e,e',h,h',ak=>by simp only [uL,Option.some.injEq,Prod.mk.injEq] at ak;obtain ⟨_,rfl⟩:=ak;exact .refl _
 |c::cs,e,e',h,h',ak=>by
  simp only [uL] at ak
  split at ak
  ·rename_i hr
   exact (hE _ _ _ _ _ _ hr).trans (WG hE cs _ _ _ _ ak)
  ·cases ak
theorem Hv {E:Code→Env→Heap→Option (Ex × Env × Heap)} (hE:∀ c e h x e' h',E c e h=some (x,e',h')→bw h h') {fn:Func} {g v:Value} {e3:Env} {h3 h':Heap} (ak:sj T E fn g e3 h3=some (v,h')):bw h3 h':=by
 unfold sj at ak
 split at ak
 ·simp only [Option.bind_eq_some_iff] at ak
  obtain ⟨fg,_,cg,_,ak⟩:=ak
  split at ak
  ·split at ak
   ·rename_i hr
    simp only [Option.bind_eq_some_iff,Option.map_eq_some_iff,Prod.mk.injEq] at ak
    obtain ⟨_,_,_,_,_,rfl⟩:=ak
    exact hE _ _ _ _ _ _ hr
   ·rename_i hr
    simp only [Option.bind_eq_some_iff,Option.map_eq_some_iff,Prod.mk.injEq] at ak
    obtain ⟨_,_,_,_,_,rfl⟩:=ak
    exact hE _ _ _ _ _ _ hr
   ·cases ak
  ·cases ak
 ·cases ak
theorem znv {C:Fn→List Value→Heap→Option (Value × Heap)} (hC:tm C) {E:Code→Env→Heap→Option (Ex × Env × Heap)} (hE:∀ c e h x e' h',E c e h=some (x,e',h')→bw h h') {fn:Func} {c:Code} {e:Env} {v:Value} {h h':Heap} (ak:C8 P T E C fn c e h=some (v,h')):bw h h':=by
 unfold C8 at ak
 simp only [Option.bind_eq_some_iff,Prod.exists] at ak
 obtain ⟨pre,m,t,rest,_,ak⟩:=ak
 split at ak
 ·simp only [Option.bind_eq_some_iff,Prod.exists] at ak
  obtain ⟨e1,h1,hp,v1,h2,ho,ak⟩:=ak
  split at ak
  ·rename_i hr
   exact (((WG hE _ _ _ _ _ hp).trans (Hu hC ho)).trans (hE _ _ _ _ _ _ hr)).trans (Hv hE ak)
  ·rename_i hr
   exact (((WG hE _ _ _ _ _ hp).trans (Hu hC ho)).trans (hE _ _ _ _ _ _ hr)).trans (Hv hE ak)
  ·cases ak
 ·cases ak
theorem zkV {gs:List Nat} (pO:Dk P gs ov):∀ n,tm (call P T ov n)
 |0=>by intro f args h v h' ak;simp [call] at ak
 |n+1=>by
  intro f args h v h' ak
  have ih:=zkV pO n
  cases f with
  |func f =>
   simp only [call] at ak
   split at ak
   ·rename_i g hg
    exact (pO f g hg args h v h' ak).1
   ·simp only [Option.bind_eq_some_iff] at ak
    obtain ⟨fn,_,c,_,ak⟩:=ak
    split at ak
    ·exact znv ih (fun c e h x e' h' hr=>Hr ih (Hs ih) _ _ _ _ _ _ _ _ hr) ak
    split at ak
    ·rename_i hr
     simp only [Option.map_eq_some_iff,Prod.mk.injEq] at ak
     obtain ⟨_,_,_,rfl⟩:=ak
     exact Hr ih (Hs ih) _ _ _ _ _ _ _ _ hr
    ·rename_i hr
     simp only [Option.map_eq_some_iff,Prod.mk.injEq] at ak
     obtain ⟨_,_,_,rfl⟩:=ak
     exact Hr ih (Hs ih) _ _ _ _ _ _ _ _ hr
    ·cases ak
  |yield A =>
   simp only [call] at ak
   exact zoM (fun c e h x e' h' hr=>Hr ih (Hs ih) _ _ _ _ _ _ _ _ hr) ak
  |_=>simp [call] at ak

theorem cC.enter {ρ:cE} {args:List Value} {aG:Array Value} (hv:cD ρ args aG.toList) (n:Nat):cC ρ (args++List.replicate (n - args.length) undef) (aG++Array.replicate (n - aG.size) undef):=by
 have hl:args.length=aG.size:=by simpa using hv.1
 refine ⟨by simp [hl],fun i=>?_⟩
 rw [Env.get_eq]
 rcases Nat.lt_or_ge i args.length with h1|h1
 ·rw [List.getElem?_append_left h1]
  have hx:args[i]? = some args[i]:=List.getElem?_eq_getElem h1
  obtain ⟨y,hy,cW⟩:=hv.get hx
  have h2:i < aG.size:=by omega
  have e1:(aG++Array.replicate (n - aG.size) undef).getD i undef=y:=by
   have h3:aG[i]? = some y:=by simpa using hy
   simp [Array.getElem?_append_left h2,h3]
  rw [e1,hx]
  exact cW
 ·rw [List.getElem?_append_right h1]
  have e1:(aG++Array.replicate (n - aG.size) undef).getD i undef=undef:=by
   have h3:aG.size≤i:=by omega
   simp only [Array.getD_eq_getD_getElem?,Array.getElem?_append_right h3]
   by_cases h4:i - aG.size < n - aG.size
   ·simp [h4]
   ·simp [h4]
  rw [e1]
  by_cases h4:i - args.length < n - args.length
  ·simp [h4];exact .undef ρ
  ·simp [h4];exact .undef ρ

theorem cC.set {ρ:cE} {e:Env} {tmps:Array Value} (he:cC ρ e tmps) {v u:Value} (hv:VR ρ v u) (d:Nat):cC ρ (Env.set e d v) (tmps.setIfInBounds d u):=by
 have:=cC.put (a:={ tmps:=tmps,defers:=[] }) he hv (some d)
 exact this

theorem cC.eE {ρ:cE}:∀ (ps:List Tmp) (args:List Value) (aG:List Value) (e:Env) (tmps:Array Value),cC ρ e tmps→cD ρ args aG→cC ρ (Am.eE e ps args) ((ps.zip aG).foldl (fun tmps (t,a)=>tmps.setIfInBounds t a) tmps)
 | [],args,aG,e,tmps,he,_=>by cases args <;> exact he
 |t::ps,[],aG,e,tmps,he,hv=>by rw [hv.of_nil];exact he
 |t::ps,v::args,aG,e,tmps,he,hv=>by
  obtain ⟨u,m,rfl,h1,h2⟩:=hv.of_cons
  exact cC.eE ps args m _ _ (he.set h1 t) h2

theorem zid {ρ:cE} {h:Heap} {fn:Func} {tmps:Array Value} {R:Ending→World→Prop} {n0:Nat}:∀ (rs:List Nat) (w:World),rs.Nodup→(∀ r∈rs,n0≤r∧w.heap[r]? = some (.deferred (some []))∧∀ A L,ρ A=some L→L.b≠r)→bP ρ h w →
 (∀ w',bP ρ h w'→w'.os=w.os→w'.tape=w.tape→w'.output=w.output→w'.heap.size=w.heap.size→(∀ b,(b < n0∨∃ A L,ρ A=some L∧L.b=b)→w'.heap[b]? = w.heap[b]?)→∃ v,(results fn tmps).run P w'=.ok v w'∧R (.returned v) w') →
 LeavesInM Fence.wide 0 P fn tmps R (rs.map fun r=>{ target:=.collected r,args:=#[] }) .returning w
 | [],w,_,_,hs,hR=>hR w hs rfl rfl rfl rfl (fun _ _=>rfl)
 |r::rs,w,fU,aB,hs,hR=>by
  obtain ⟨a1,a2,a3⟩:=aB r (by simp)
  have aR:r < w.heap.size:=(Array.getElem?_eq_some_iff.1 a2).1
  refine ⟨by simp,.inl ⟨r,_,rfl,run_takeDeferred a2,?_⟩⟩
  obtain ⟨IV,Ob⟩:=List.nodup_cons.1 fU
  have dz:(w.putObj r (.deferred none)).heap.size=w.heap.size:=by rw [WL];simp
  refine zid (n0:=n0) rs _ Ob (fun q hq=>?_) ⟨fun A L hA=>(hs.fG A L hA).keep (fun _ _ h=>h) (by rw [dz];exact Nat.le_refl _) (fun _=>WV (a3 A L hA)),hs.inj⟩ fun w' jH h1 h2 h3 h4 h5=>?_
  ·obtain ⟨b1,b2,b3⟩:=aB q (by simp [hq])
   exact ⟨b1,(WV (fun (e:q=r)=>IV (e ▸ hq))).trans b2,b3⟩
  ·refine hR w' jH h1 h2 h3 (h4.trans dz) fun b hb=>(h5 b hb).trans (WV fun e=>?_)
   subst e
   rcases hb with hb|⟨A,L,hA,hb⟩
   ·omega
   ·exact a3 A L hA hb

inductive kY (m:Oper) (t:Tmp) (rest:Code):List Code→Code→Prop where
 |here (id:Nat) (ops:Array Oper) (d:Oper) (args:Array Operand) (fb:Array TypeId):ops.toList=[m,d]→d.op=.defer ⟨.value (.tmp t),args,fb⟩→args.isEmpty=true→m.guard=none→d.guard=none→d.dst=none→kY m t rest [] (.seq (.region id ops false) rest)
 |step (a b:Code) (pre:List Code):kY m t rest pre b→kY m t rest (a::pre) (.seq a b)
theorem znx {d:Oper} {t:Tmp} (h:UL d=some t):∃ args fb,d.op=.defer ⟨.value (.tmp t),args,fb⟩∧args.isEmpty=true∧d.guard=none∧d.dst=none:=by
 unfold UL at h
 split at h
 ·rename_i t' args fb aV
  split at h
  ·rename_i hc
   cases h
   simp only [Bool.and_eq_true,Option.isNone_iff_eq_none] at hc
   exact ⟨args,fb,aV,hc.1.1,hc.1.2,hc.2⟩
  ·cases h
 ·cases h
theorem zqP:∀ (c:Code) (pre:List Code) (m:Oper) (t:Tmp) (rest:Code),xZ c=some (pre,m,t,rest)→kY m t rest pre c:=by
 intro c
 induction c with
 |seq a b _ iO =>
  intro pre m t rest h
  have cP:∀ (a:Code),((xZ b).map fun (pre,m,t,r)=>(a::pre,m,t,r))=some (pre,m,t,rest)→kY m t rest pre (.seq a b):=by
   intro a hm
   simp only [Option.map_eq_some_iff,Prod.exists,Prod.mk.injEq] at hm
   obtain ⟨adO,m',t',r',hs,rfl,rfl,rfl,rfl⟩:=hm
   exact .step a b adO (iO _ _ _ _ hs)
  unfold xZ at h
  split at h
  ·rename_i id ops b' heq
   cases heq
   split at h
   ·rename_i m' d An
    split at h
    ·rename_i t' hd
     split at h
     ·rename_i hg
      simp only [Option.some.injEq,Prod.mk.injEq] at h
      obtain ⟨rfl,rfl,rfl,rfl⟩:=h
      obtain ⟨args,fb,h1,h2,h3,h4⟩:=znx hd
      exact .here id ops d args fb An h1 h2 (by simpa using hg) h3 h4
     ·exact cP _ h
    ·exact cP _ h
   ·exact cP _ h
  ·rename_i a' b' _ heq
   cases heq
   exact cP _ h
  ·cases h
 |_=>intro pre m t rest h;simp [xZ] at h

theorem znw (hT:T.Fits P) {C:Fn→List Value→Heap→Option (Value × Heap)} {gs:List Nat} (hC:CS P gs C) (hg:tm C) {E:Code→Env→Heap→Option (Ex × Env × Heap)}
 (hE:∀ (n0:Nat) (B:List Deferred) (c:Code) (e:Env) (h:Heap) (x:Ex) (e':Env) (h':Heap) (ρ:cE) (a:Act) (w:World) (Q:Exit→Act→World→Prop),E c e h=some (x,e',h')→cO ρ c→(true=true→kN c=true)→da gs ρ→bP ρ h w→fI ρ h h'→cC ρ e a.tmps→Marks n0 B true ρ w a.defers→Im ρ none none→n0≤w.heap.size →
  (∀ ρ' a' w',Fr ρ ρ' h h' w w'→bP ρ' h' w'→cC ρ' e' a'.tmps→Marks n0 B true ρ' w' a'.defers→Q x.to a' w')→c.wpIn (WR none) 0 P Q a w)
 (yk:∀ c e h x e' h',E c e h=some (x,e',h')→bw h h')
 {fn:Func} {c:Code} {e:Env} {h h':Heap} {v:Value} {ρ:cE} {w:World} {tmps:Array Value} (Ac:∀ g fg cg,T.fn g=some fg→fg.body=some cg→rr gs cg=true) (dy:cO ρ c) (hG:da gs ρ) (hs:bP ρ h w) (hf:fI ρ h h') (he:cC ρ e tmps)
 (ak:C8 P T E C fn c e h=some (v,h')) :
 c.wpIn Fence.wide 0 P (bodyPostM Fence.wide 0 P fn fun ed w'=>∃ ρ' u,ed=.returned u∧Fr ρ ρ' h h' w w'∧bP ρ' h' w'∧VR ρ' v u) { tmps,defers:=[] } w:=by
 have key:∀ (pre:List Code) (m:Oper) (t:Tmp) (rest:Code) (c:Code),kY m t rest pre c→∀ (e:Env) (h1:Heap) (ρ1:cE) (w1:World) (a:Act),pre.all kN=true→kN rest=true→cO ρ1 c→da gs ρ1→bP ρ1 h1 w1→fI ρ1 h1 h'→cC ρ1 e a.tmps→a.defers=[]→Fr ρ ρ1 h h1 w w1 →
  ((uL E pre e h1).bind fun (e1,h1)=>(iQ P T C e1 m h1).bind fun (v,h2) =>
    match E rest (put e1 m.dst v) h2 with
    |some (.ret,e3,h3)=>sj T E fn ((put e1 m.dst v).get t) e3 h3
    |some (.normal,e3,h3)=>sj T E fn ((put e1 m.dst v).get t) e3 h3
    |_=>none)=some (v,h') →
  c.wpIn Fence.wide 0 P (bodyPostM Fence.wide 0 P fn fun ed w'=>∃ ρ' u,ed=.returned u∧Fr ρ ρ' h h' w w'∧bP ρ' h' w'∧VR ρ' v u) a w1:=by
  intro pre m t rest c cF
  induction cF with
  |step a0 b0 as7 _ ih =>
   intro e h1 ρ1 w1 a mQ gf dy hG hs hf he hd df ak
   simp only [List.all_cons,Bool.and_eq_true] at mQ
   simp only [uL,Option.bind_eq_some_iff,Prod.exists] at ak
   obtain ⟨e2,h2,hp,ak⟩:=ak
   split at hp
   ·rename_i e3 h3 hr
    have pc:bw h3 h':=by
     obtain ⟨v2,h4,ho,ak⟩:=ak
     have k1:=WG yk _ _ _ _ _ hp
     have k2:=Hu hg ho
     split at ak
     ·rename_i jb;exact ((k1.trans k2).trans (yk _ _ _ _ _ _ jb)).trans (Hv yk ak)
     ·rename_i jb;exact ((k1.trans k2).trans (yk _ _ _ _ _ _ jb)).trans (Hv yk ak)
     ·cases ak
    refine wpIn_seq ?_
    refine hE w1.heap.size [] a0 e h1 .normal e3 h3 ρ1 a w1 _ hr dy.1 (fun _=>mQ.1) hG hs (hf.left pc.size) he (by rw [hd];exact Marks.nil) trivial (Nat.le_refl _) fun ρ2 a2 w2 f2 s2 r2 d2=>?_
    obtain ⟨rs,m1,_,m2,_⟩:=d2
    rw [m2 rfl] at m1
    refine ih e3 h3 ρ2 w2 a2 mQ.2 gf (dy.2.mono f2.grow) (hG.mono f2.grow) s2 (hf.right f2) r2 (by simpa using m1) (df.trans f2) ?_
    simp only [Option.bind_eq_some_iff,Prod.exists]
    exact ⟨e2,h2,hp,ak⟩
   ·cases hp
  |here id ops d args fb An aV eu Tk Tf Bi =>
   intro e h1 ρ1 w1 a _ gf dy hG hs hf he hd df ak
   simp only [uL,Option.bind_eq_some_iff,Prod.exists,Option.some.injEq,Prod.mk.injEq] at ak
   obtain ⟨e1,bH,⟨rfl,rfl⟩,v1,h2,ho,ak⟩:=ak
   have gz:bw h2 h':=by
    split at ak
    ·rename_i jb;exact (yk _ _ _ _ _ _ jb).trans (Hv yk ak)
    ·rename_i jb;exact (yk _ _ _ _ _ _ jb).trans (Hv yk ak)
    ·cases ak
   refine wpIn_seq (wpIn_region_list ?_)
   rw [An]
   have acL:kZ ρ1 m:=dy.1 m (by rw [An];simp)
   have Tt:Region.wanted m (yielded ops a.tmps)=true:=by simp [Region.wanted,Tk]
   rw [wpListIn,if_pos Tt]
   have xh:=Ju hT hC hG hs he acL (hf.left gz.size) ho
   refine xh.wp (rl:=none) (Jt ho) fun ρ2 u w2 f2 s2 v2=>?_
   have q8:cC ρ2 (put e m.dst v1) (a.put m.dst u).tmps:=(he.mono f2.grow).put v2 m.dst
   have fj:(a.put m.dst u).defers=[]:=by cases m.dst <;> exact hd
   have hwd:Region.wanted d (yielded ops (a.put m.dst u).tmps)=true:=by simp [Region.wanted,Tf]
   rw [wpListIn,if_pos hwd]
   have Ad:=q8.2 t
   /- what lies there -/
   have Gu:∃ x e3 h3,(x=Ex.ret∨x=.normal)∧E rest (put e m.dst v1) h2=some (x,e3,h3)∧sj T E fn ((put e m.dst v1).get t) e3 h3=some (v,h'):=by
    split at ak
    ·rename_i e3 h3 jb;exact ⟨_,e3,h3,.inl rfl,jb,ak⟩
    ·rename_i e3 h3 jb;exact ⟨_,e3,h3,.inr rfl,jb,ak⟩
    ·cases ak
   obtain ⟨x,e3,h3,hx,jb,cz⟩:=Gu
   unfold sj at cz
   split at cz
   ·rename_i g fi ca tQ
    rw [tQ] at Ad
    generalize Be:(a.put m.dst u).tmps.getD t undef=ag at Ad
    cases Ad with
    |func _ q1 q2 q3 q4 =>
     rename_i Dv Ds
     have kg:cD ρ2 fi.toList Dv.toList:=⟨by simpa using q1,fun i x y hx hy=>q3 i x y (by simpa using hx) (by simpa using hy)⟩
     have jI:cD ρ2 ca.toList Ds.toList:=⟨by simpa using q2,fun i x y hx hy=>q4 i x y (by simpa using hx) (by simpa using hy)⟩
     simp only [Option.bind_eq_some_iff] at cz
     obtain ⟨fg,o7,cg,IL,cz⟩:=cz
     split at cz
     ·rename_i lk
      have hae:(a.put m.dst u).eval (.tmp t)=.func (.func g) Dv Ds:=Be
      have iM:(execOp (a.put m.dst u).eval d).run P w2=.ok (.defer { target:=.fn (.func g) Ds,args:=Dv }) w2:=by
       have F4:args=#[]:=by simpa using eu
       simp [execOp,aV,resolve,hae,Deferred.ofValue,F4]
      refine ⟨fun fq hq=>trivial,?_⟩
      rw [show Oper.semAt Fence.wide.round (a.put m.dst u).eval d=execOp (a.put m.dst u).eval d from rfl,iM]
      simp only [Oper.uponIn,wpListIn,Bi,fj]
      have pc:bw h3 h':=Hv yk (show sj T E fn (.func (.func g) fi ca) e3 h3=some (v,h') by unfold sj;simp only [o7,Option.bind_some,IL,lk,if_true];exact cz)
      refine hE w2.heap.size [{ target:=.fn (.func g) Ds,args:=Dv }] rest _ _ _ _ _ ρ2 _ w2 _ jb (dy.2.mono f2.grow) (fun _=>gf) (hG.mono f2.grow) s2 ((hf.right f2).left pc.size) q8 Marks.nil trivial (Nat.le_refl _) fun ρ3 a3 w3 f3 s3 r3 d3=>?_
      obtain ⟨rs,m1,_,m2,_⟩:=d3
      rw [m2 rfl] at m1
      have m1':a3.defers=[{ target:=.fn (.func g) Ds,args:=Dv }]:=by simpa using m1
      have hl:LeavesInM Fence.wide 0 P fn a3.tmps (fun ed w'=>∃ ρ' u,ed=.returned u∧Fr ρ ρ' h h' w w'∧bP ρ' h' w'∧VR ρ' v u) a3.defers .returning w3:=by
       rw [m1']
       obtain ⟨XV,fA,_⟩:=hT.fn g fg o7
       have fZ:¬ fg.name="runtime.NumGoroutine":=by simpa using fA
       refine ⟨by simp,.inr ⟨(fun hh=>by cases hh),_,_,g,Dv++Ds,rfl,?_,fun _ _=>trivial,?_⟩⟩
       ·show (callFunc g (Dv++Ds)).run P w3=_
        simp [callFunc,XV,fZ,IL]
       ·have dA:cD ρ3 (fi.toList++ca.toList) (Dv++Ds).toList:=by
         have:=(kg.append jI).mono f3.grow
         simpa using this
        have heg:=cC.enter dA fg.ntmps
        have Ou:∃ y e4 h4 vg,(y=Ex.ret∨y=.normal)∧E cg ((fi.toList++ca.toList)++List.replicate (fg.ntmps - (fi.toList++ca.toList).length) undef) h3=some (y,e4,h4)∧mj T fg e4 h4=some vg∧mj T fn e3 h4=some v∧h4=h':=by
         split at cz
         ·rename_i e4 h4 tZ
          simp only [Option.bind_eq_some_iff,Option.map_eq_some_iff,Prod.mk.injEq] at cz
          obtain ⟨vg,GW,v',OD,rfl,rfl⟩:=cz
          exact ⟨_,e4,h4,vg,.inl rfl,tZ,GW,OD,rfl⟩
         ·rename_i e4 h4 tZ
          simp only [Option.bind_eq_some_iff,Option.map_eq_some_iff,Prod.mk.injEq] at cz
          obtain ⟨vg,GW,v',OD,rfl,rfl⟩:=cz
          exact ⟨_,e4,h4,vg,.inr rfl,tZ,GW,OD,rfl⟩
         ·cases cz
        obtain ⟨y,e4,h4,vg,hy,tZ,GW,jd,rfl⟩:=Ou
        refine (callsDIn_of_wp (R:=fun ed w'=>∃ u,ed=.returned u∧∃ vr,(results fn a3.tmps).run P w'=.ok vr w'∧∃ ρ' u',Ending.returned vr=.returned u'∧Fr ρ ρ' h h4 w w'∧bP ρ' h4 w'∧VR ρ' v u') XV IL trivial ?_).mono ?_
        ·refine hE w3.heap.size [] cg _ _ _ _ _ ρ3 _ w3 _ tZ (.of (hG.mono (f2.trans f3).grow) (Ac g fg cg o7 IL)) (fun _=>lk) (hG.mono (f2.trans f3).grow) s3 ((hf.right f2).right f3) heg Marks.nil trivial (Nat.le_refl _) fun ρ4 a4 w4 f4 s4 r4 d4=>?_
         obtain ⟨rs4,n1,_,n2,_⟩:=d4
         rw [n2 rfl] at n1
         have n1':a4.defers=[]:=by simpa using n1
         obtain ⟨ug,hug,_⟩:=E6 hT s4 r4 GW
         obtain ⟨uf,huf,adb⟩:=E6 hT s4 (r3.mono f4.grow) jd
         have X8:a4.defers=[]∧∃ vv,(results fg a4.tmps).run P w4=.ok vv w4∧∃ u,Ending.returned vv=.returned u∧∃ vr,(results fn a3.tmps).run P w4=.ok vr w4∧∃ ρ' u',Ending.returned vr=.returned u'∧Fr ρ ρ' h h4 w w4∧bP ρ' h4 w4∧VR ρ' v u' :=
          ⟨n1',ug,hug,ug,rfl,uf,huf,ρ4,uf,rfl,((df.trans f2).trans f3).trans f4,s4,adb⟩
         rcases hy with rfl|rfl
         ·exact X8
         ·exact X8
        ·rintro ed u' w' ⟨rfl,uu,rfl,vr,ph,hR⟩
         exact ⟨vr,ph,hR⟩
      rcases hx with rfl|rfl
      ·exact hl
      ·exact hl
     ·cases cz
   ·cases cz
 unfold C8 at ak
 simp only [Option.bind_eq_some_iff,Prod.exists] at ak
 obtain ⟨pre,m,t,rest,cF,ak⟩:=ak
 split at ak
 ·rename_i lk
  simp only [Bool.and_eq_true] at lk
  exact key pre m t rest c (zqP _ _ _ _ _ cF) e h ρ w _ lk.1 lk.2 dy hG hs hf he rfl (Fr.refl _ _ _) ak
 ·cases ak

theorem TQ (lj:P.follows .mixedOrders=true) (hT:T.Fits P) (pO:Dk P T.gs ov):∀ n,CS P T.gs (call P T ov n)
 |0=>by
  refine ⟨?_,?_⟩
  ·intro f args h v h' ak;simp [call] at ak
  ·intro f args h v h' ak;simp [call] at ak
 |n+1=>by
  have OM:=TQ lj hT pO n
  have nq:=zkV (T:=T) pO n
  have wJ:=fun (rd rl:Option Nat) (n0:Nat)=>zgm hT OM nq (zgn lj hT OM nq) (Hs nq) rd rl n0 [] false n
  have wR:=fun (rd:Option Nat)=>Hr (P:=P) (T:=T) nq (Hs (P:=P) (T:=T) nq) rd n
  refine ⟨?_,?_⟩
  ·intro f args h v h' ak ρ w aG hG hs hf hv
   simp only [call] at ak
   split at ak
   ·rename_i g hg
    exact (pO f g hg args h v h' ak).2 ρ w aG hG hs hf hv
   ·simp only [Option.bind_eq_some_iff] at ak
    obtain ⟨fn,tP,c,hc,ak⟩:=ak
    obtain ⟨hP,fA,dy⟩:=hT.fn f fn tP
    right
    refine ⟨?_,?_⟩
    ·have fZ:¬ fn.name="runtime.NumGoroutine":=by simpa using fA
     simp [callFunc,hP,fZ,hc]
    ·refine callsIn_wide.1 (callsIn_of_wp_marks (n:=0) hP hc trivial ?_)
     have he:=cC.enter hv fn.ntmps
     have go:∀ (x:Ex) (e:Env) (h2:Heap),x=.ret∨x=.normal→dQ P T (call P T ov n) (nU P T (call P T ov n)) none n c (args++List.replicate (fn.ntmps - args.length) undef) h=some (x,e,h2) →
      (mj T fn e h2).map (fun v=>(v,h2))=some (v,h')→c.wpIn Fence.wide 0 P (bodyPostM Fence.wide 0 P fn fun ed w'=>∃ ρ' u,ed=.returned u∧Fr ρ ρ' h h' w w'∧bP ρ' h' w'∧VR ρ' v u) { tmps:=aG++Array.replicate (fn.ntmps - aG.size) undef,defers:=[] } w:=by
      intro x e h2 hx hr iM
      simp only [Option.map_eq_some_iff,Prod.mk.injEq] at iM
      obtain ⟨v',iM,rfl,rfl⟩:=iM
      refine wJ none none w.heap.size c _ _ _ _ _ ρ _ w _ hr (.of hG (dy c hc)) (fun q=>by cases q) hG hs hf he Marks.nil trivial (Nat.le_refl _) fun ρ' a' w' f1 s1 e1 d1=>?_
      obtain ⟨rs,m1,m2,_,m3⟩:=d1
      rw [List.append_nil] at m1
      have hl:LeavesInM Fence.wide 0 P fn a'.tmps (fun ed w'=>∃ ρ' u,ed=.returned u∧Fr ρ ρ' h h2 w w'∧bP ρ' h2 w'∧VR ρ' v' u) a'.defers .returning w':=by
       rw [m1]
       refine zid rs w' m2 m3 s1 fun w2 s2 q1 q2 q3 q4 q5=>?_
       obtain ⟨u,hu,lT⟩:=E6 hT s2 e1 iM
       refine ⟨u,hu,ρ',u,rfl,⟨f1.grow,f1.fresh,q1.trans f1.os,q2.trans f1.tape,q3.trans f1.output,by rw [q4];exact f1.size,f1.iF,f1.low,fun b hb aB=>?_,f1.sB⟩,s2,lT⟩
       exact (q5 b (.inl hb)).trans (f1.keep b hb aB)
      rcases hx with rfl|rfl
      ·exact hl
      ·exact hl
     split at ak
     ·exact znw hT OM nq (fun n0 B c e h x e' h' ρ a w Q=>zgm hT OM nq (zgn lj hT OM nq) (Hs nq) none none n0 B true n c e h x e' h' ρ a w Q) (fun c e h x e' h' hr=>wR none c e h x e' h' hr) (fun g fg cg h1 h2=>(hT.fn g fg h1).2.2 cg h2) (.of hG (dy c hc)) hG hs hf he ak
     split at ak
     ·rename_i e h2 hr;exact go .ret e h2 (.inl rfl) hr ak
     ·rename_i e h2 hr;exact go .normal e h2 (.inr rfl) hr ak
     ·cases ak
  ·intro A args h v h' ak ρ w aG L hA hG hs hf hv
   simp only [call] at ak
   unfold EJ at ak
   split at ak
   ·rename_i env ps assign body st dN hg
    split at ak
    ·rename_i hlen
     split at ak
     ·rename_i e1 h1 As
      split at ak
      ·rename_i oQ AV oJ mu jf yq
       obtain ⟨lo,l1,l2,l3,l4,l5,l6,l7,l8,l9,_⟩:=Ru hs hA hg
       have ky:args.length=aG.size:=by simpa using hv.1
       have nj:lo.params.size=ps.length:=by rw [← l4];simp
       refine ⟨lo.fn,(lo.params.zip aG).foldl (fun tmps (t,a)=>tmps.setIfInBounds t a) lo.tmps,lo.assign,lo.body,?_,?_⟩
       ·simp only [Instr.yield,Sem.run_bind,run_getLoop l1,Result.andThen_ok]
        rw [if_neg (by omega)]
        simp
       ·have key:∀ (x:Ex) (e2:Env) (h2:Heap) (jump:Option Code),dQ P T (call P T ov n) (nU P T (call P T ov n)) (some A) n body e1 (h1.set A (.loop oQ AV oJ mu .busy jf))=some (x,e2,h2) →
         (jump=match x with | .normal=>none | .ret=>some .ret | .exit id=>some (.exit id))→xT A jump h2=some (v,h')→RoundIn Fence.wide 0 P L.b lo.fn ((lo.params.zip aG).foldl (fun tmps (t,a)=>tmps.setIfInBounds t a) lo.tmps) lo.assign lo.body w fun ed w'=>∃ ρ' u,ed=.returned u∧Fr ρ ρ' h h' w w'∧bP ρ' h' w'∧VR ρ' v u:=by
         intro x e2 h2 jump jb wO kA
         have k1:=wR (some A) _ _ _ _ _ _ As
         have k2:=wR (some A) _ _ _ _ _ _ jb
         have k3:=Wz kA
         have s1:=k2.size
         have s2:=k3.size
         rw [Heap.size_set] at s1
         refine roundIn_of_wpIn (F:=Fence.wide) trivial ?_
         have Bk:cC ρ (eE env ps args) ((lo.params.zip aG).foldl (fun tmps (t,a)=>tmps.setIfInBounds t a) lo.tmps):=by
          have:=cC.eE ps args aG.toList env lo.tmps l7 hv
          rw [← Array.foldl_toList,Array.toList_zip,l4]
          exact this
         rw [l5]
         refine wJ (some A) (some L.b) w.heap.size assign _ _ _ _ _ ρ _ w _ As l8 (fun q=>by cases q) hG hs (hf.left (by omega)) Bk Marks.nil ⟨L,hA,rfl⟩ (Nat.le_refl _) fun ρ1 a1 w1 f1 sm1 en1 d1=>?_
         have nH:=f1.grow A L hA
         obtain ⟨YW,p1,p2,p3,p4,p5,p6,p7,p8,p9,p10⟩:=Ru sm1 nH yq
         obtain ⟨f2,Y6⟩:=p10 .busy jf
         have acy:({ YW with state:=LoopState.busy,pending:=jf }:Loop)={ YW with state:=LoopState.busy }:=by subst p3;rfl
         rw [acy] at f2 Y6
         refine ⟨_,run_beginRound p1 p2,?_⟩
         rw [l6]
         refine wJ (some A) (some L.b) w.heap.size body _ _ _ _ _ ρ1 a1 _ _ jb (l9.mono f1.grow) (fun q=>by cases q) (hG.mono f1.grow) Y6 ?_ en1 (d1.step f2) ⟨L,nH,rfl⟩ (Nat.le_trans f1.size f2.size) fun ρ3 a3 w3 f3 sm3 en3 d3=>?_
         ·have df:fI ρ1 h1 h2:=((hf.left (by omega)).right f1)
          exact df
         ·have uZ:=f3.grow A L nH
          unfold xT at kA
          split at kA
          ·rename_i MO Y4 sC Dl fV ajQ Yg
           cases kA
           obtain ⟨Hd,z1,z2,z3,z4,z5,z6,z7,z8,z9,xP⟩:=Ru sm3 uZ Yg
           obtain ⟨f4,sm4⟩:=xP (if jump.isNone then .ready else .done) jump
           have ld:∃ ρ' u,Ending.returned (.bool jump.isNone)=.returned u∧Fr ρ ρ' h (h2.set A (.loop MO Y4 sC Dl (if jump.isNone then .ready else .done) jump)) w (w3.putObj L.b (.loop { Hd with state:=if jump.isNone then .ready else .done,pending:=jump })) ∧
            bP ρ' (h2.set A (.loop MO Y4 sC Dl (if jump.isNone then .ready else .done) jump)) (w3.putObj L.b (.loop { Hd with state:=if jump.isNone then .ready else .done,pending:=jump }))∧VR ρ' (.bool jump.isNone) u :=
            ⟨ρ3,_,rfl,((f1.trans f2).trans f3).trans f4,sm4,.bool _⟩
           have dX:=run_endRound (P:=P) jump z1
           cases x with
           |normal=>subst wO;exact ⟨_,_,dX,ld⟩
           |ret=>subst wO;exact ⟨_,_,dX,ld⟩
           |exit id=>subst wO;exact ⟨_,_,dX,ld⟩
          ·cases kA
        split at ak
        ·rename_i e2 h2 jb;exact key _ _ _ _ jb rfl ak
        ·rename_i e2 h2 jb;exact key _ _ _ _ jb rfl ak
        ·rename_i e2 h2 jb;exact key _ _ _ _ jb rfl ak
        ·cases ak
      ·cases ak
     ·cases ak
    ·cases ak
   ·cases ak

theorem Fr.below {ρ ρ':cE} {h h':Heap} {w w':World} (f:Fr ρ ρ' h h' w w') (tV:∀ A L,ρ A=some L→A < h'.low):Below w.heap.size w w' :=
 ⟨f.os,f.tape,f.output,f.size,fun k hk=>f.keep k hk fun A L hA _=>.inl (tV A L hA)⟩

theorem zyH (lj:P.follows .mixedOrders=true) (hT:T.Fits P) (pO:Dk P T.gs ov) {n:Nat} {f:FuncId} {b:Bool} {h h':Heap} (hf:ov f=none) (dX:call P T ov n (.func f) [] h=some (.bool b,h')) (w:World) (ρ:cE)
 (hG:da T.gs ρ) (hs:bP ρ h w) (bN:∀ A,h.size≤A→ρ A=none) (tV:∀ A L,ρ A=some L→A < h'.low) :
 Calls P f #[] w fun e w'=>e=.returned (.bool b)∧Below w.heap.size w w':=by
 have k8:=(TQ lj hT pO n).fn f [] h (.bool b) h' dX ρ w #[] hG hs (fun A h1 _=>bN A h1) (.nil _)
 rcases k8 with ⟨ρ',u,w',h1,_⟩|⟨_,h1⟩
 ·exfalso
  cases n with
  |zero=>simp [call] at dX
  |succ n =>
   simp only [call,hf,Option.bind_eq_some_iff] at dX
   obtain ⟨fn,tP,c,hc,_⟩:=dX
   obtain ⟨hP,fA,_⟩:=hT.fn f fn tP
   have fZ:¬ fn.name="runtime.NumGoroutine":=by simpa using fA
   simp [callFunc,hP,fZ,hc] at h1
 ·refine h1.mono ?_
  rintro e w' ⟨ρ',u,rfl,f1,s1,hv⟩
  refine ⟨?_,f1.below tV⟩
  rw [hv.bM rfl]
end
end Go.Am
