/- Steps on values without addresses. No condition. -/
import Derived.Test.YtnkmeidmdaidhaaGreatDoorGSym
import Derived.Laws.Strings
import Derived.ProofKit
import Derived.ChangeSame
set_option linter.unusedSimpArgs false
namespace Go.Am
variable {Z:Type} {a b:Int} {k:IntKind} {x:Operand} {t:TypeId}
section
variable {P:Program} {T:bJ} {ov:Ov} {d:Option Tmp} {ty:TypeId} {pos:String} {af:Array Edge} {g:Option (Nat × Bool)} {e:Env} {h:Heap} {K:aJ}

theorem P3 (k:Program->Sem Z):gB P (program >>= k)=gB P (k P):=rfl
theorem FX (a:Z):gB P (pure a:Sem Z)=some a:=rfl
theorem Qy {β:Type} (a:Z) (k:Z->Sem β):((pure a:Sem Z) >>= k)=k a:=rfl
theorem QL {β:Type} (a:Z) (k:Z->β):k <$> (pure a:Sem Z)=pure (k a):=rfl
theorem bS {p:Prop} [Decidable p] (h1:p->K (.bool true) h) (h2:¬ p->K (.bool false) h):uG (decide p) h K :=
 ⟨λhp=>h1 (of_decide_eq_true hp),λhp=>h2 (of_decide_eq_false hp)⟩
theorem qL (h1:a=b->K (.bool true) h) (h2:¬ a=b->K (.bool false) h):uG (a == b) h K :=
 ⟨λhp=>h1 (by simpa using hp),λhp=>h2 (by simpa using hp)⟩
theorem qM (h1:¬ a=b->K (.bool true) h) (h2:a=b->K (.bool false) h):uG (a != b) h K :=
 ⟨λhp=>h1 (by simpa using hp),λhp=>h2 (by simpa using hp)⟩
def j5 (s:aU) (i:Nat):Int:=((s[i]?).getD 0).toNat
theorem FJ {i:Operand} {s:aU} {j:Int} (hd:P.underlying t=some .string) (hx:bz e x=.string s) (hi:bz e i=.int k j) (h0:0<=j) (h1:j < s.size)
 (hk:K (.int .u8 (j5 s j.toNat)) h):dv (gP P e ⟨d,.index t x i,ty,pos,af,g⟩ h) K:=by
 have aT:j.toNat < s.size:=by omega
 have hs:s[j.toNat]? = some s[j.toNat]:=by simp [aT]
 have:gP P e ⟨d,.index t x i,ty,pos,af,g⟩ h=some (.int .u8 (j5 s j.toNat),h):=by
  unfold gP
  rw [aD (by simp [Op.operands,hx,hi,plain,lM])]
  have:gB P (execOp (bz e) ⟨d,.index t x i,ty,pos,af,g⟩)=some (.value (.int .u8 (j5 s j.toNat))):=by
   simp [execOp,Instr.index,hx,hi,asIntOf,underlying,hd,h0,hs,P3,FX,Qy,QL,j5]
  rw [this]
  rfl
 rw [this]
 exact hk
theorem cf {b:Bool} (hx:bz e x=.bool b) (hk:K (.bool !b) h):dv (gP P e ⟨d,.unOp .not t x,ty,pos,af,g⟩ h) K:=by
 have:gP P e ⟨d,.unOp .not t x,ty,pos,af,g⟩ h=some (.bool !b,h):=by
  unfold gP
  rw [aD (by simp [Op.operands,hx,plain,lM])]
  have:gB P (execOp (bz e) ⟨d,.unOp .not t x,ty,pos,af,g⟩)=some (.value (.bool !b)):=by
   simp [execOp,hx,Op.unary,P3,FX,Qy,QL]
  rw [this]
  rfl
 rw [this]
 exact hk
theorem Nt {y:Operand} {iq:Array TypeId} (hx:bz e x=.int k a) (hy:bz e y=.int k b) (hk:K (.int k (if b < a then b else a)) h):dv (gP P e ⟨d,.call ⟨.builtin .min,#[x,y],iq⟩,ty,pos,af,g⟩ h) K:=by
 have:gP P e ⟨d,.call ⟨.builtin .min,#[x,y],iq⟩,ty,pos,af,g⟩ h=some (.int k (if b < a then b else a),h):=by
  unfold gP
  rw [aD (by simp [Op.operands,Call.operands,hx,hy,plain,lM])]
  have:gB P (execOp (bz e) ⟨d,.call ⟨.builtin .min,#[x,y],iq⟩,ty,pos,af,g⟩)=some (.value (.int k (if b < a then b else a))):=by
   simp [execOp,hx,hy,resolve,invoke,builtin,Builtin.min_,Builtin.min2,P3,FX,Qy,QL]
  rw [this]
  rfl
 rw [this]
 exact hk
theorem Ns {y:Operand} {iq:Array TypeId} (hx:bz e x=.int k a) (hy:bz e y=.int k b) (hk:K (.int k (if a < b then b else a)) h):dv (gP P e ⟨d,.call ⟨.builtin .max,#[x,y],iq⟩,ty,pos,af,g⟩ h) K:=by
 have:gP P e ⟨d,.call ⟨.builtin .max,#[x,y],iq⟩,ty,pos,af,g⟩ h=some (.int k (if a < b then b else a),h):=by
  unfold gP
  rw [aD (by simp [Op.operands,Call.operands,hx,hy,plain,lM])]
  have:gB P (execOp (bz e) ⟨d,.call ⟨.builtin .max,#[x,y],iq⟩,ty,pos,af,g⟩)=some (.value (.int k (if a < b then b else a))):=by
   simp [execOp,hx,hy,resolve,invoke,builtin,Builtin.max_,Builtin.max2,P3,FX,Qy,QL]
  rw [this]
  rfl
 rw [this]
 exact hk

theorem Nx {op:BinOp} {a b:aU} {v:ai} (hp:plain v=true) (hv:gB P (Op.stringOp op a b)=some v) (hb:r5 op (.string a) (.string b)=none):cA P T op t (.string a) (.string b)=some v:=by
 have h1:(T.desc t).bind (λd=>Gn d (.string a) (.string b))=none:=by
  cases T.desc t with
  |none=>rfl
  |some d=>cases d <;> rfl
 have h2:gB P (binOp op t (.string a) (.string b))=some v:=by
  rw [<- hv]
  cases op <;> rfl
 unfold cA
 rw [hb]
 simp only [h1,h2]
 rw [aD (show (plain (Value.string a) && plain (Value.string b))=true from rfl)]
 simp only [dO]
 rw [aD hp]
theorem CL (a:aU):a.toList=a.data.toList:=ByteArray.toList_eq a
theorem QH {a b:aU} (hs:a.size+b.size<=9223372036854775807):cA P T .add t (.string a) (.string b)=some (.string (a++b)):=by
 refine Nx rfl ?_ rfl
 unfold Op.stringOp
 simp only
 rw [az (by simp only [IntKind.max,IntKind.signed,IntKind.bits];simp;omega)]
 rfl
theorem zAU {t:TypeId} {a b:aU}:cA P T .eql t (.string a) (.string b)=some (.bool (decide (a=b))):=by
 refine Nx rfl ?_ rfl
 have:(a.toList == b.toList)=decide (a=b):=by
  rw [CL,CL]
  by_cases h:a=b
  .subst h;simp
  .have h2:a.data≠b.data:=λhh=>h (by cases a;cases b;simp at hh;simp [hh])
   simp [h,h2]
 unfold Op.stringOp
 simp only [this]
 rfl
theorem zAV {t:TypeId} {a b:aU}:cA P T .neq t (.string a) (.string b)=some (.bool (decide (a≠b))):=by
 refine Nx rfl ?_ rfl
 have:(a.toList == b.toList)=decide (a=b):=by
  rw [CL,CL]
  by_cases h:a=b
  .subst h;simp
  .have h2:a.data≠b.data:=λhh=>h (by cases a;cases b;simp at hh;simp [hh])
   simp [h,h2]
 unfold Op.stringOp
 simp only [this]
 simp [FX]
end
end Go.Am
namespace Go.Am
variable {b:aZ} {h:Heap}
structure Holds (h:Heap) (A:Nat) (b:aZ):Prop where
 lt:A < h.size
 get:h.get A=some b
theorem Holds.ext {h':Heap} {A:Nat} (hh:Holds h A b) (hx:Ext h h'):Holds h' A b:=⟨dr hh.lt hx.size,(hx.get A hh.lt).trans hh.get⟩
theorem Holds.top {h':Heap} {l:List aZ} {w i:Nat} (hx:Ext (h.lay l w) h') (hi:l[i]? = some b):Holds h' (h.size+i) b:=by
 have hl:i < l.length:=(fG.1 hi).1
 refine Holds.ext ⟨by rw [bh];omega,?_⟩ hx
 rw [jG]
 exact hi
theorem Holds.lay {h:Heap} {A:Nat} {b:aZ} (hh:Holds h A b) (l:List aZ) (w:Nat):(h.lay l w).get A=some b:=(sU h l w hh.lt).trans hh.get
theorem Holds.on {A:Nat} (hh:Holds h A b) (l:List aZ) (w:Nat):Holds (h.lay l w) A b:=⟨by rw [bh];have:=hh.lt;omega,hh.lay l w⟩
theorem Ext.over {h1 h2:Heap} {l:List aZ} (z:Ext h h1) (x:Ext (h1.lay l h1.low) h2):Ext h h2:=(z.trans (Nr _ _ _ (yb _ _))).trans x
theorem Ext.up {h1:Heap} (z:Ext h h1) (l:List aZ):Ext h (h1.lay l h1.low):=z.trans (Nr _ _ _ (yb _ _))

section
variable {T:bJ} {t e:TypeId} {k bytes:Nat} {z:List ai}
theorem zvM (hd:T.desc t=some (.slice e)) (hi:T.info e=some (k,bytes,z)) (hk:0 < k) {x:ai} {m:Nat} {news:List ai} (hs:fU x k h=some (m,news)) (hm:0 < m) (h1:news.all one=true) (hb:m*bytes<=140737488355328) (hl:m<=1152921504606846976) :
 jT T t (.slice none 0 0) x h=some (.slice (some ⟨h.size,0,none⟩) m (G*k+m),h.push (.row news e false)):=by
 unfold jT
 simp only [hd,hi,hs,dO]
 rw [az (by omega),az,az]
 .have hG:0 < G:=by unfold G;omega
  simp [nj,hG]
 .have:0 % G=0:=Nat.zero_mod _
  omega
 .simp only [sg,jm,zi,h1,not_or]
  refine ⟨⟨⟨by omega,by simp;omega⟩,by omega⟩,by simp⟩
theorem zyv (hd:T.desc t=some (.slice e)) (hi:T.info e=some (k,bytes,z)) (hk:0 < k) {x:ai} {B n m:Nat} {eF news:List ai} (hg:h.get B=some (.row eF e false)) (ho:eF.length=n*k) (hn:0 < n)
 (hs:fU x k h=some (m,news)) (hm:0 < m) (h1:news.all one=true) (hb:(n+m)*bytes<=140737488355328) (hl:n+m<=1152921504606846976) :
 jT T t (.slice (some ⟨B,0,none⟩) n (G*k+n)) x h=some (.slice (some ⟨h.size,0,none⟩) (n+m) (G*k+(n+m)),(h.set B .dead).push (.row (eF++news) e false)):=by
 obtain ⟨c1,c2,c3⟩:=CX (k:=k) (q:=n) hk (by unfold G;omega)
 have hnk:n*k≠0:=by
  have:=Nat.mul_pos hn hk
  omega
 have wm:cut eF 0 (n*k)=some eF:=by
  unfold cut
  rw [aD (by omega),<- ho]
  simp
 unfold jT
 simp only [hd,hi,hs,dO]
 rw [az (by omega),az,az (by rw [c2];omega)]
 .simp only [nj,hnk,if_false,kY,hg,wm,dO]
  rw [az (by omega)]
  simp [c3]
 .simp only [sg,jm,zi,h1,not_or]
  exact ⟨⟨⟨by omega,by omega⟩,by omega⟩,by simp⟩
end
theorem Tr.kx:∀ (n m:Nat) (t:Tr) (i:Nat) (a b:aZ),i < n->i < m->Tr.set n (Tr.set m t i a) i b=Tr.set n t i b
 |0,_,_,_,_,_,h,_=>by omega
 |_,0,_,_,_,_,_,h=>by omega
 |n+1,m+1,t,i,a,b,hn,hm=>by
  cases i with
  |zero=>cases t <;> rfl
  |succ i =>
   cases t with
   |nil=>by_cases hp:(i % 2 == 0)=true <;> simp only [Tr.set,hp,if_true,if_false,gX] <;> rw [Tr.kx n m .nil (i / 2) a b (by omega) (by omega)]
   |node v l r =>
    by_cases hp:(i % 2 == 0)=true <;> simp only [Tr.set,hp,if_true,if_false,gX]
    .rw [Tr.kx n m l (i / 2) a b (by omega) (by omega)]
    .rw [Tr.kx n m r (i / 2) a b (by omega) (by omega)]
theorem Tr.set_comm:∀ (n m:Nat) (t:Tr) (i j:Nat) (a b:aZ),i≠j->i < m->j < n->Tr.set n (Tr.set m t i a) j b=Tr.set m (Tr.set n t j b) i a
 |0,_,_,_,_,_,_,_,_,h=>by omega
 |_,0,_,_,_,_,_,_,h,_=>by omega
 |n+1,m+1,t,i,j,a,b,fw,hm,hn=>by
  have hdiv:∀ {i j:Nat},i≠j->i % 2=j % 2->i / 2≠j / 2:=by intro i j h1 h2;omega
  cases i with
  |zero =>
   cases j with
   |zero=>exact (fw rfl).elim
   |succ j=>cases t <;> by_cases hj:(j % 2 == 0)=true <;> simp only [Tr.set,hj,if_true,if_false,gX]
  |succ i =>
   cases j with
   |zero=>cases t <;> by_cases hi:(i % 2 == 0)=true <;> simp only [Tr.set,hi,if_true,if_false,gX]
   |succ j =>
    cases t with
    |nil =>
     by_cases hi:(i % 2 == 0)=true <;> by_cases hj:(j % 2 == 0)=true <;> simp only [Tr.set,hi,hj,if_true,if_false,gX]
     .rw [Tr.set_comm n m .nil (i / 2) (j / 2) a b (hdiv (by omega) (by simp at hi hj;omega)) (by omega) (by omega)]
     .rw [Tr.set_comm n m .nil (i / 2) (j / 2) a b (hdiv (by omega) (by simp at hi hj;omega)) (by omega) (by omega)]
    |node v l r =>
     by_cases hi:(i % 2 == 0)=true <;> by_cases hj:(j % 2 == 0)=true <;> simp only [Tr.set,hi,hj,if_true,if_false,gX]
     .rw [Tr.set_comm n m l (i / 2) (j / 2) a b (hdiv (by omega) (by simp at hi hj;omega)) (by omega) (by omega)]
     .rw [Tr.set_comm n m r (i / 2) (j / 2) a b (hdiv (by omega) (by simp at hi hj;omega)) (by omega) (by omega)]
theorem zwE (l:List aZ):∀ (h:Heap) (i:Nat) (b:aZ),i < l.length->((l.foldl Heap.push h).tr.set (h.size+i+1) (h.size+i) b)=((l.set i b).foldl Heap.push h).tr:=by
 have push:∀ (l:List aZ) (h:Heap) (A:Nat) (b:aZ),A < h.size->(l.foldl Heap.push h).tr.set (A+1) A b=(l.foldl Heap.push { h with tr:=h.tr.set (A+1) A b }).tr:=by
  intro l
  induction l with
  |nil=>intro h A b _;rfl
  |cons c l ih =>
   intro h A b hA
   rw [uL,uL,ih (h.push c) A b (by rw [Heap.size_push];omega)]
   congr 2
   simp only [Heap.push,Heap.mk.injEq,true_and,and_true]
   exact Tr.set_comm _ _ _ _ _ _ _ (by omega) (by omega) (by omega)
 induction l with
 |nil=>intro h i b hi;simp at hi
 |cons c l ih =>
  intro h i b hi
  cases i with
  |zero =>
   simp only [gx,uL,gd]
   rw [push l (h.push c) h.size b (by rw [Heap.size_push];omega)]
   congr 2
   simp only [Heap.push,Heap.mk.injEq,true_and,and_true]
   exact Tr.kx _ _ _ _ _ _ (by omega) (by omega)
  |succ i =>
   rw [uL,ze,uL]
   have:=ih (h.push c) i b (by simpa using hi)
   rw [Heap.size_push] at this
   rw [show h.size+(i+1)=h.size+1+i by omega]
   exact this
theorem HV (h:Heap) (l:List aZ) (w i:Nat) (b:aZ) (hi:i < l.length):(h.lay l w).set (h.size+i) b=h.lay (l.set i b) (min w (h.size+i)):=by
 unfold Heap.lay Heap.set
 simp only [Heap.mk.injEq]
 refine ⟨?_,zwE l h i b hi,trivial⟩
 rw [P0,P0,ja]
def vk (b:Option aZ) (i o:Nat) (vs:List ai) (h:Heap) (l:List aZ) (w:Nat):Option Heap:=match b with
 |some (.row cs e false)=>if (decide (o+vs.length<=cs.length) && vs.all one)=true then some (h.lay (l.set i (.row (aI cs o vs) e false)) (min w (h.size+i))) else none
 |_=>none
theorem iy (cs:List ai) (e:TypeId) (i o:Nat) (vs:List ai) (h:Heap) (l:List aZ) (w:Nat) :
 vk (some (.row cs e false)) i o vs h l w=if (decide (o+vs.length<=cs.length) && vs.all one)=true then some (h.lay (l.set i (.row (aI cs o vs) e false)) (min w (h.size+i))) else none:=rfl
theorem Bz {T:bJ} {t n:Nat} (hs:dJ T t=some n) (h:Heap) (l:List aZ) (w i o:Nat) (v:ai) (hi:i < l.length) :
 i7 T t (.pointer (some ⟨h.size+i,o,none⟩)) v (h.lay l w)=if v.cells.size=n then vk l[i]? i o v.cells.toList h l w else none:=by
 simp only [i7,hs,dO]
 split
 .unfold nM
  rw [jG]
  generalize hb:l[i]? = b
  cases b with
  |none=>rfl
  |some b =>
   cases b with
   |row cs e ro =>
    cases ro with
    |true=>rfl
    |false =>
     simp only [vk]
     split
     .rw [HV _ _ _ _ _ hi]
     .rfl
   |_=>rfl
 .rfl
section
variable {T:bJ} {t e:TypeId} {bytes:Nat} {z:List ai}
end
end Go.Am
namespace Go.Am

inductive uM where
 |here
 |l (p:uM)
 |r (p:uM)
inductive ET where
 |leaf
 |node (v:ai) (l r:ET)
noncomputable def ET.get (p:uM):ET->ai :=
 uM.rec (motive:=λ_=>ET->ai) (λt=>ET.casesOn t undef λv _ _=>v) (λ_ ih t=>ET.casesOn t undef λ_ l _=>ih l) (λ_ ih t=>ET.casesOn t undef λ_ _ r=>ih r) p
noncomputable def ET.set (p:uM) (v:ai):ET->ET :=
 uM.rec (motive:=λ_=>ET->ET) (λt=>ET.casesOn t (.node v .leaf .leaf) λ_ l r=>.node v l r) (λ_ ih t=>ET.casesOn t (.node undef (ih .leaf) .leaf) λx l r=>.node x (ih l) r)
  (λ_ ih t=>ET.casesOn t (.node undef .leaf (ih .leaf)) λx l r=>.node x l (ih r)) p

structure FE where
 n:Nat
 t:ET

abbrev FK:=ai->Heap->Bool




section
variable (P:Program) (T:bJ)


variable (C:Fn->List ai->Heap->FK->Bool)



def CU (ops:Array Oper) (ms:List Nat):Bool :=
 (List.range ops.size).all λj=>match ops[j]? with
  |some oj=>oj.after.toList.all (λe => !Region.binds .any e || decide (e.on < j)) &&
   (List.range j).all λi=>(ms.getD j 0).testBit i || (match ops[i]? with
    |some oi=>oi.apart ops oj
    |none=>true)
  |none=>true
def mQ (ops:Array Oper) (i:Nat):Bool:=match ops[i]? with
 |some o=>pO T o
 |none=>true
def Io (ops:Array Oper) (ms:List Nat):List (Nat × Nat) :=
 (List.range ops.size).flatMap λj=>(List.range j).filterMap λi=>if (ms.getD j 0).testBit i || mQ T ops i || mQ T ops j then none else some (i,j)
def yT (ks:List Nat):List (Nat × Nat)->Bool
 | []=>true
 |(i,j)::r=>nD (ks.getD i 2) (ks.getD j 2) && yT ks r


end
end Go.Am
namespace Go.Am

theorem ET.gH:∀ p:uM,ET.get p .leaf=undef
 | .here=>rfl
 | .l _=>rfl
 | .r _=>rfl
theorem ET.aG:∀ (p q:uM) (v:ai) (t:ET),(p=q->ET.get q (ET.set p v t)=v)/\(p≠q->ET.get q (ET.set p v t)=ET.get q t)
 | .here,.here,v,t=>⟨λ_=>by cases t <;> rfl,λh=>(h rfl).elim⟩
 | .here,.l q,v,t=>⟨λh=>(by cases h),λ_=>by
  cases t with
  |leaf=>exact ET.gH q
  |node x l r=>rfl⟩
 | .here,.r q,v,t=>⟨λh=>(by cases h),λ_=>by
  cases t with
  |leaf=>exact ET.gH q
  |node x l r=>rfl⟩
 | .l p,.here,v,t=>⟨λh=>(by cases h),λ_=>by cases t <;> rfl⟩
 | .r p,.here,v,t=>⟨λh=>(by cases h),λ_=>by cases t <;> rfl⟩
 | .l p,.r q,v,t=>⟨λh=>(by cases h),λ_=>by
  cases t with
  |leaf=>exact ET.gH q
  |node x l r=>rfl⟩
 | .r p,.l q,v,t=>⟨λh=>(by cases h),λ_=>by
  cases t with
  |leaf=>exact ET.gH q
  |node x l r=>rfl⟩
 | .l p,.l q,v,t=>by
  cases t with
  |leaf=>exact ⟨λh=>(ET.aG p q v .leaf).1 (uM.l.inj h),λh=>((ET.aG p q v .leaf).2 (λe=>h (by rw [e]))).trans (ET.gH q)⟩
  |node x l r=>exact ⟨λh=>(ET.aG p q v l).1 (uM.l.inj h),λh=>(ET.aG p q v l).2 (λe=>h (by rw [e]))⟩
 | .r p,.r q,v,t=>by
  cases t with
  |leaf=>exact ⟨λh=>(ET.aG p q v .leaf).1 (uM.r.inj h),λh=>((ET.aG p q v .leaf).2 (λe=>h (by rw [e]))).trans (ET.gH q)⟩
  |node x l r=>exact ⟨λh=>(ET.aG p q v r).1 (uM.r.inj h),λh=>(ET.aG p q v r).2 (λe=>h (by rw [e]))⟩




section
variable {P:Program} {T:bJ} {ov:Ov}








theorem zjH (ks:List Nat):∀ ps:List (Nat × Nat),yT ks ps=true->∀ i j,(i,j)∈ps->nD (ks.getD i 2) (ks.getD j 2)=true
 | [],_,_,_,h=>by cases h
 |(a,b)::r,h,i,j,hm=>by
  simp only [yT,dK] at h
  rcases df.1 hm with h1|h1
  .cases h1;exact h.1
  .exact zjH ks r h.2 i j h1
theorem zwa {ops:Array Oper} {ms ks:List Nat} (h1:CU ops ms=true) (h2:yT ks (Io T ops ms)=true) (h3:∀ i,i < ops.size->mQ T ops i=true->ks.getD i 2=0):Ga ops ks ms=true:=by
 unfold Ga
 rw [iM]
 intro j hj
 have GW:j < ops.size:=rj.1 hj
 unfold CU at h1
 have h1:=iM.1 h1 j hj
 unfold HS
 split
 .rename_i oj oe
  rw [oe] at h1
  simp only [dK] at h1 ⊢
  refine ⟨h1.1,?_⟩
  rw [iM]
  intro i hi
  have fw:i < j:=rj.1 hi
  have h4:=iM.1 h1.2 i hi
  cases ht:(ms.getD j 0).testBit i with
  |true=>rfl
  |false =>
   rw [ht] at h4
   simp only [Gw] at h4 ⊢
   split at h4
   .rename_i oi Ap
    rw [Ap]
    simp only
    rw [dK]
    refine ⟨h4,?_⟩
    cases ym:mQ T ops i with
    |true=>rw [h3 i (by omega) ym];rfl
    |false =>
     cases GO:mQ T ops j with
     |true=>rw [h3 j GW GO];simp [nD]
     |false =>
      refine zjH ks _ h2 i j ?_
      unfold Io
      rw [BE]
      refine ⟨j,hj,?_⟩
      rw [List.mem_filterMap]
      exact ⟨i,hi,by rw [ht,ym,GO];rfl⟩
   .rename_i Ap;rw [Ap]
 .rfl










end
end Go.Am
namespace Go.Am
open Go.ChangeShapes Go.WideShapes Go.ChangeAt Go.RowKit

section
variable {H:Type} {enc:TypeId × ai->H} {P:Program}
theorem zyO {f:Func} {s:ChangeSpec} {apart fresh handsOn again:Bool} {W W':World} {args:Array ai} {v:ai} {ds gs:List (DataW H)} {before pa pv:List MemPlace}
 (hW:DataW.Whole enc P f.params.toList s.vars apart W args.toList ds gs before)
 (kj:∀ (b:Nat) (sp:Nat->Bool) (hd:Bool),DataW.TrodAll enc P W' b sp hd f.resultTypes.toList (v.resultList f.resultTypes.size) (s.fn H (ds++gs)).results [])
 (eb:∀ sp:Nat->Bool,(∀ p∈before,sp p.block=true)->DataW.TrodAll enc P W' 0 sp true f.params.toList args.toList (s.fn H (ds++gs)).args pa)
 (qz:∀ sp:Nat->Bool,(∀ p∈before,sp p.block=true)->DataW.TrodVars enc P W' sp s.vars (s.fn H (ds++gs)).vars pv)
 (wS:before=pa++pv) (hb:Below W.heap.size W W')
 (cV:∀ (j:Nat) (t:TypeId) (r:ai),f.resultTypes[j]? = some t->(v.resultList f.resultTypes.size)[j]? = some r->Value.okWide P W' .any 0 t r) :
 s.post enc P f apart fresh handsOn again W args v W':=by
 have below:∀ p∈before,p.block < W.heap.size:=λp hp=>hW.lt p hp
 have eF:∀ p∈before,(λb=>decide (b < W.heap.size)) p.block=true:=λp hp=>by simpa using below p hp
 have mem:∀ p,p∈before↔p∈([]++pa)++pv:=λp=>by rw [wS];simp
 refine ⟨ds,gs,before,[],pa,pv,hW,kj _ _ _,eb _ eF,qz _ eF,World.keptBut_mono (λp hp=>⟨hp,?_⟩) (hb.frame (·∈before)),λ_=>?_⟩
 .rw [wS,gg] at hp
  exact .inr hp
 obtain ⟨_,_,_,_,_,hz,hn⟩:=hW
 refine ⟨cV,_,_,([]++pa)++pv,⟨[]++pa,pv,trodAll_append (eb _ (λ_ _=>rfl)) (kj _ _ _),qz _ (λ_ _=>rfl),rfl,λb off hp=>?_,λha=>?_⟩,?_⟩
 .have aP:=(mem _).2 hp
  rw [hb.frozen (below _ aP)]
  exact hz b off aP
 .have:=hn ha
  rw [wS] at this
  simpa using this
 .exact λp hp _=>(mem p).2 hp
end


end Go.Am
