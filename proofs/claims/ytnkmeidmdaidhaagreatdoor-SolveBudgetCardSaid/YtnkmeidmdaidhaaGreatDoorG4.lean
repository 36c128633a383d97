/- Steps on values without addresses. No condition. -/
import Derived.Test.YtnkmeidmdaidhaaGreatDoorGSym
import Derived.Laws.Strings
import Derived.ProofKit
import Derived.ChangeSame
set_option linter.unusedSimpArgs false
namespace Go.Am
variable {Z:Type} {a b:Int} {k:IntKind} {x:Operand} {t:TypeId}
section
variable {P:Program} {T:bx} {ov:Ov} {d:Option Tmp} {ty:TypeId} {pos:String} {af:Array Edge} {g:Option (Nat × Bool)} {e:Env} {h:Heap} {K:aL}

theorem Mc (k:Program->Sem Z):fc P (program >>= k)=fc P (k P):=rfl
theorem zK (a:Z):fc P (pure a:Sem Z)=some a:=rfl
theorem ML {β:Type} (a:Z) (k:Z->Sem β):((pure a:Sem Z) >>= k)=k a:=rfl
theorem M7 {β:Type} (a:Z) (k:Z->β):k <$> (pure a:Sem Z)=pure (k a):=rfl
theorem b9 {p:Prop} [Decidable p] (h1:p->K (.bool true) h) (h2:¬ p->K (.bool false) h):rK (decide p) h K :=
 ⟨λhp=>h1 (of_decide_eq_true hp),λhp=>h2 (of_decide_eq_false hp)⟩
theorem pK (h1:a=b->K (.bool true) h) (h2:¬ a=b->K (.bool false) h):rK (a == b) h K :=
 ⟨λhp=>h1 (by simpa using hp),λhp=>h2 (by simpa using hp)⟩
theorem se (h1:¬ a=b->K (.bool true) h) (h2:a=b->K (.bool false) h):rK (a != b) h K :=
 ⟨λhp=>h1 (by simpa using hp),λhp=>h2 (by simpa using hp)⟩
def j5 (s:bf) (i:Nat):Int:=((s[i]?).getD 0).toNat
theorem znC {i:Operand} {s:bf} {j:Int} (hd:P.underlying t=some .string) (hx:br e x=.string s) (hi:br e i=.int k j) (h0:0<=j) (h1:j < s.size)
 (hk:K (.int .u8 (j5 s j.toNat)) h):da (fB P e ⟨d,.index t x i,ty,pos,af,g⟩ h) K:=by
 have aW:j.toNat < s.size:=by omega
 have hs:s[j.toNat]? = some s[j.toNat]:=by simp [aW]
 have:fB P e ⟨d,.index t x i,ty,pos,af,g⟩ h=some (.int .u8 (j5 s j.toNat),h):=by
  unfold fB
  rw [aG (by simp [Op.operands,hx,hi,plain,jP])]
  have:fc P (execOp (br e) ⟨d,.index t x i,ty,pos,af,g⟩)=some (.value (.int .u8 (j5 s j.toNat))):=by
   simp [execOp,Instr.index,hx,hi,asIntOf,underlying,hd,h0,hs,Mc,zK,ML,M7,j5]
  rw [this]
  rfl
 rw [this]
 exact hk
theorem cn {b:Bool} (hx:br e x=.bool b) (hk:K (.bool !b) h):da (fB P e ⟨d,.unOp .not t x,ty,pos,af,g⟩ h) K:=by
 have:fB P e ⟨d,.unOp .not t x,ty,pos,af,g⟩ h=some (.bool !b,h):=by
  unfold fB
  rw [aG (by simp [Op.operands,hx,plain,jP])]
  have:fc P (execOp (br e) ⟨d,.unOp .not t x,ty,pos,af,g⟩)=some (.value (.bool !b)):=by
   simp [execOp,hx,Op.unary,Mc,zK,ML,M7]
  rw [this]
  rfl
 rw [this]
 exact hk
theorem MQ {y:Operand} {fY:Array TypeId} (hx:br e x=.int k a) (hy:br e y=.int k b) (hk:K (.int k (if b < a then b else a)) h):da (fB P e ⟨d,.call ⟨.builtin .min,#[x,y],fY⟩,ty,pos,af,g⟩ h) K:=by
 have:fB P e ⟨d,.call ⟨.builtin .min,#[x,y],fY⟩,ty,pos,af,g⟩ h=some (.int k (if b < a then b else a),h):=by
  unfold fB
  rw [aG (by simp [Op.operands,Call.operands,hx,hy,plain,jP])]
  have:fc P (execOp (br e) ⟨d,.call ⟨.builtin .min,#[x,y],fY⟩,ty,pos,af,g⟩)=some (.value (.int k (if b < a then b else a))):=by
   simp [execOp,hx,hy,resolve,invoke,builtin,Builtin.min_,Builtin.min2,Mc,zK,ML,M7]
  rw [this]
  rfl
 rw [this]
 exact hk
theorem MO {y:Operand} {fY:Array TypeId} (hx:br e x=.int k a) (hy:br e y=.int k b) (hk:K (.int k (if a < b then b else a)) h):da (fB P e ⟨d,.call ⟨.builtin .max,#[x,y],fY⟩,ty,pos,af,g⟩ h) K:=by
 have:fB P e ⟨d,.call ⟨.builtin .max,#[x,y],fY⟩,ty,pos,af,g⟩ h=some (.int k (if a < b then b else a),h):=by
  unfold fB
  rw [aG (by simp [Op.operands,Call.operands,hx,hy,plain,jP])]
  have:fc P (execOp (br e) ⟨d,.call ⟨.builtin .max,#[x,y],fY⟩,ty,pos,af,g⟩)=some (.value (.int k (if a < b then b else a))):=by
   simp [execOp,hx,hy,resolve,invoke,builtin,Builtin.max_,Builtin.max2,Mc,zK,ML,M7]
  rw [this]
  rfl
 rw [this]
 exact hk

theorem JS {op:BinOp} {a b:bf} {v:ai} (hp:plain v=true) (hv:fc P (Op.stringOp op a b)=some v) (hb:oB op (.string a) (.string b)=none):bZ P T op t (.string a) (.string b)=some v:=by
 have h1:(T.desc t).bind (λd=>Ad d (.string a) (.string b))=none:=by
  cases T.desc t with
  |none=>rfl
  |some d=>cases d <;> rfl
 have h2:fc P (binOp op t (.string a) (.string b))=some v:=by
  rw [<- hv]
  cases op <;> rfl
 unfold bZ
 rw [hb]
 simp only [h1,h2]
 rw [aG (show (plain (Value.string a) && plain (Value.string b))=true from rfl)]
 simp only [dz]
 rw [aG hp]
theorem zy (a:bf):a.toList=a.data.toList:=ByteArray.toList_eq a
theorem MS {a b:bf} (hs:a.size+b.size<=9223372036854775807):bZ P T .add t (.string a) (.string b)=some (.string (a++b)):=by
 refine JS rfl ?_ rfl
 unfold Op.stringOp
 simp only
 rw [aA (by simp only [IntKind.max,IntKind.signed,IntKind.bits];simp;omega)]
 rfl
theorem zyI {t:TypeId} {a b:bf}:bZ P T .eql t (.string a) (.string b)=some (.bool (decide (a=b))):=by
 refine JS rfl ?_ rfl
 have:(a.toList == b.toList)=decide (a=b):=by
  rw [zy,zy]
  by_cases h:a=b
  .subst h;simp
  .have h2:a.data≠b.data:=λhh=>h (by cases a;cases b;simp at hh;simp [hh])
   simp [h,h2]
 unfold Op.stringOp
 simp only [this]
 rfl
theorem zyJ {t:TypeId} {a b:bf}:bZ P T .neq t (.string a) (.string b)=some (.bool (decide (a≠b))):=by
 refine JS rfl ?_ rfl
 have:(a.toList == b.toList)=decide (a=b):=by
  rw [zy,zy]
  by_cases h:a=b
  .subst h;simp
  .have h2:a.data≠b.data:=λhh=>h (by cases a;cases b;simp at hh;simp [hh])
   simp [h,h2]
 unfold Op.stringOp
 simp only [this]
 simp [zK]
end
end Go.Am
namespace Go.Am
variable {b:bc} {h:Heap}
structure ak (h:Heap) (A:Nat) (b:bc):Prop where
 lt:A < h.size
 get:h.get A=some b
theorem ak.ext {h':Heap} {A:Nat} (hh:ak h A b) (hx:Ext h h'):ak h' A b:=⟨dU hh.lt hx.size,(hx.get A hh.lt).trans hh.get⟩
theorem ak.top {h':Heap} {l:List bc} {w i:Nat} (hx:Ext (h.lay l w) h') (hi:l[i]? = some b):ak h' (h.size+i) b:=by
 have hl:i < l.length:=(fD.1 hi).1
 refine ak.ext ⟨by rw [bo];omega,?_⟩ hx
 rw [kM]
 exact hi
theorem ak.lay {h:Heap} {A:Nat} {b:bc} (hh:ak h A b) (l:List bc) (w:Nat):(h.lay l w).get A=some b:=(xW h l w hh.lt).trans hh.get
theorem ak.on {A:Nat} (hh:ak h A b) (l:List bc) (w:Nat):ak (h.lay l w) A b:=⟨by rw [bo];have:=hh.lt;omega,hh.lay l w⟩
theorem Ext.over {h1 h2:Heap} {l:List bc} (z:Ext h h1) (x:Ext (h1.lay l h1.low) h2):Ext h h2:=(z.trans (Uv _ _ _ (wk _ _))).trans x
theorem Ext.up {h1:Heap} (z:Ext h h1) (l:List bc):Ext h (h1.lay l h1.low):=z.trans (Uv _ _ _ (wk _ _))

section
variable {T:bx} {t e:TypeId} {k bytes:Nat} {z:List ai}
theorem zyx (hd:T.desc t=some (.slice e)) (hi:T.info e=some (k,bytes,z)) (hk:0 < k) {x:ai} {m:Nat} {news:List ai} (hs:gg x k h=some (m,news)) (hm:0 < m) (h1:news.all one=true) (hb:m*bytes<=140737488355328) (hl:m<=1152921504606846976) :
 lh T t (.slice none 0 0) x h=some (.slice (some ⟨h.size,0,none⟩) m (G*k+m),h.push (.row news e false)):=by
 unfold lh
 simp only [hd,hi,hs,dz]
 rw [aA (by omega),aA,aA]
 .have hG:0 < G:=by unfold G;omega
  simp [pJ,hG]
 .have:0 % G=0:=Nat.zero_mod _
  omega
 .simp only [qH,iC,yx,h1,not_or]
  refine ⟨⟨⟨by omega,by simp;omega⟩,by omega⟩,by simp⟩
theorem zwm (hd:T.desc t=some (.slice e)) (hi:T.info e=some (k,bytes,z)) (hk:0 < k) {x:ai} {B n m:Nat} {eh news:List ai} (hg:h.get B=some (.row eh e false)) (ho:eh.length=n*k) (hn:0 < n)
 (hs:gg x k h=some (m,news)) (hm:0 < m) (h1:news.all one=true) (hb:(n+m)*bytes<=140737488355328) (hl:n+m<=1152921504606846976) :
 lh T t (.slice (some ⟨B,0,none⟩) n (G*k+n)) x h=some (.slice (some ⟨h.size,0,none⟩) (n+m) (G*k+(n+m)),(h.set B .dead).push (.row (eh++news) e false)):=by
 obtain ⟨c1,c2,c3⟩:=zQ (k:=k) (q:=n) hk (by unfold G;omega)
 have hnk:n*k≠0:=by
  have:=Nat.mul_pos hn hk
  omega
 have tg:cut eh 0 (n*k)=some eh:=by
  unfold cut
  rw [aG (by omega),<- ho]
  simp
 unfold lh
 simp only [hd,hi,hs,dz]
 rw [aA (by omega),aA,aA (by rw [c2];omega)]
 .simp only [pJ,hnk,if_false,kL,hg,tg,dz]
  rw [aA (by omega)]
  simp [c3]
 .simp only [qH,iC,yx,h1,not_or]
  exact ⟨⟨⟨by omega,by omega⟩,by omega⟩,by simp⟩
end
theorem Tr.iZ:∀ (n m:Nat) (t:Tr) (i:Nat) (a b:bc),i < n->i < m->Tr.set n (Tr.set m t i a) i b=Tr.set n t i b
 |0,_,_,_,_,_,h,_=>by omega
 |_,0,_,_,_,_,_,h=>by omega
 |n+1,m+1,t,i,a,b,hn,hm=>by
  cases i with
  |zero=>cases t <;> rfl
  |succ i =>
   cases t with
   |nil=>by_cases hp:(i % 2 == 0)=true <;> simp only [Tr.set,hp,if_true,if_false,fF] <;> rw [Tr.iZ n m .nil (i / 2) a b (by omega) (by omega)]
   |node v l r =>
    by_cases hp:(i % 2 == 0)=true <;> simp only [Tr.set,hp,if_true,if_false,fF]
    .rw [Tr.iZ n m l (i / 2) a b (by omega) (by omega)]
    .rw [Tr.iZ n m r (i / 2) a b (by omega) (by omega)]
theorem Tr.set_comm:∀ (n m:Nat) (t:Tr) (i j:Nat) (a b:bc),i≠j->i < m->j < n->Tr.set n (Tr.set m t i a) j b=Tr.set m (Tr.set n t j b) i a
 |0,_,_,_,_,_,_,_,_,h=>by omega
 |_,0,_,_,_,_,_,_,h,_=>by omega
 |n+1,m+1,t,i,j,a,b,ej,hm,hn=>by
  have hdiv:∀ {i j:Nat},i≠j->i % 2=j % 2->i / 2≠j / 2:=by intro i j h1 h2;omega
  cases i with
  |zero =>
   cases j with
   |zero=>exact (ej rfl).elim
   |succ j=>cases t <;> by_cases hj:(j % 2 == 0)=true <;> simp only [Tr.set,hj,if_true,if_false,fF]
  |succ i =>
   cases j with
   |zero=>cases t <;> by_cases hi:(i % 2 == 0)=true <;> simp only [Tr.set,hi,if_true,if_false,fF]
   |succ j =>
    cases t with
    |nil =>
     by_cases hi:(i % 2 == 0)=true <;> by_cases hj:(j % 2 == 0)=true <;> simp only [Tr.set,hi,hj,if_true,if_false,fF]
     .rw [Tr.set_comm n m .nil (i / 2) (j / 2) a b (hdiv (by omega) (by simp at hi hj;omega)) (by omega) (by omega)]
     .rw [Tr.set_comm n m .nil (i / 2) (j / 2) a b (hdiv (by omega) (by simp at hi hj;omega)) (by omega) (by omega)]
    |node v l r =>
     by_cases hi:(i % 2 == 0)=true <;> by_cases hj:(j % 2 == 0)=true <;> simp only [Tr.set,hi,hj,if_true,if_false,fF]
     .rw [Tr.set_comm n m l (i / 2) (j / 2) a b (hdiv (by omega) (by simp at hi hj;omega)) (by omega) (by omega)]
     .rw [Tr.set_comm n m r (i / 2) (j / 2) a b (hdiv (by omega) (by simp at hi hj;omega)) (by omega) (by omega)]
theorem zuP (l:List bc):∀ (h:Heap) (i:Nat) (b:bc),i < l.length->((l.foldl Heap.push h).tr.set (h.size+i+1) (h.size+i) b)=((l.set i b).foldl Heap.push h).tr:=by
 have push:∀ (l:List bc) (h:Heap) (A:Nat) (b:bc),A < h.size->(l.foldl Heap.push h).tr.set (A+1) A b=(l.foldl Heap.push { h with tr:=h.tr.set (A+1) A b }).tr:=by
  intro l
  induction l with
  |nil=>intro h A b _;rfl
  |cons c l ih =>
   intro h A b hA
   rw [rL,rL,ih (h.push c) A b (by rw [Heap.size_push];omega)]
   congr 2
   simp only [Heap.push,Heap.mk.injEq,true_and,and_true]
   exact Tr.set_comm _ _ _ _ _ _ _ (by omega) (by omega) (by omega)
 induction l with
 |nil=>intro h i b hi;simp at hi
 |cons c l ih =>
  intro h i b hi
  cases i with
  |zero =>
   simp only [gw,rL,eA]
   rw [push l (h.push c) h.size b (by rw [Heap.size_push];omega)]
   congr 2
   simp only [Heap.push,Heap.mk.injEq,true_and,and_true]
   exact Tr.iZ _ _ _ _ _ _ (by omega) (by omega)
  |succ i =>
   rw [rL,yo,rL]
   have:=ih (h.push c) i b (by simpa using hi)
   rw [Heap.size_push] at this
   rw [show h.size+(i+1)=h.size+1+i by omega]
   exact this
theorem EL (h:Heap) (l:List bc) (w i:Nat) (b:bc) (hi:i < l.length):(h.lay l w).set (h.size+i) b=h.lay (l.set i b) (min w (h.size+i)):=by
 unfold Heap.lay Heap.set
 simp only [Heap.mk.injEq]
 refine ⟨?_,zuP l h i b hi,trivial⟩
 rw [L9,L9,ij]
def sd (b:Option bc) (i o:Nat) (vs:List ai) (h:Heap) (l:List bc) (w:Nat):Option Heap:=match b with
 |some (.row cs e false)=>if (decide (o+vs.length<=cs.length) && vs.all one)=true then some (h.lay (l.set i (.row (aJ cs o vs) e false)) (min w (h.size+i))) else none
 |_=>none
theorem gy (cs:List ai) (e:TypeId) (i o:Nat) (vs:List ai) (h:Heap) (l:List bc) (w:Nat) :
 sd (some (.row cs e false)) i o vs h l w=if (decide (o+vs.length<=cs.length) && vs.all one)=true then some (h.lay (l.set i (.row (aJ cs o vs) e false)) (min w (h.size+i))) else none:=rfl
theorem yn {T:bx} {t n:Nat} (hs:de T t=some n) (h:Heap) (l:List bc) (w i o:Nat) (v:ai) (hi:i < l.length) :
 gN T t (.pointer (some ⟨h.size+i,o,none⟩)) v (h.lay l w)=if v.cells.size=n then sd l[i]? i o v.cells.toList h l w else none:=by
 simp only [gN,hs,dz]
 split
 .unfold np
  rw [kM]
  generalize hb:l[i]? = b
  cases b with
  |none=>rfl
  |some b =>
   cases b with
   |row cs e ro =>
    cases ro with
    |true=>rfl
    |false =>
     simp only [sd]
     split
     .rw [EL _ _ _ _ _ hi]
     .rfl
   |_=>rfl
 .rfl
section
variable {T:bx} {t e:TypeId} {bytes:Nat} {z:List ai}
end
end Go.Am
namespace Go.Am

inductive DD where
 |here
 |l (p:DD)
 |r (p:DD)
inductive ET where
 |leaf
 |node (v:ai) (l r:ET)
noncomputable def ET.get (p:DD):ET->ai :=
 DD.rec (motive:=λ_=>ET->ai) (λt=>ET.casesOn t undef λv _ _=>v) (λ_ ih t=>ET.casesOn t undef λ_ l _=>ih l) (λ_ ih t=>ET.casesOn t undef λ_ _ r=>ih r) p
noncomputable def ET.set (p:DD) (v:ai):ET->ET :=
 DD.rec (motive:=λ_=>ET->ET) (λt=>ET.casesOn t (.node v .leaf .leaf) λ_ l r=>.node v l r) (λ_ ih t=>ET.casesOn t (.node undef (ih .leaf) .leaf) λx l r=>.node x (ih l) r)
  (λ_ ih t=>ET.casesOn t (.node undef .leaf (ih .leaf)) λx l r=>.node x l (ih r)) p

structure FE where
 n:Nat
 t:ET

abbrev FK:=ai->Heap->Bool




section
variable (P:Program) (T:bx)


variable (C:Fn->List ai->Heap->FK->Bool)



def zI (ops:Array Oper) (ms:List Nat):Bool :=
 (List.range ops.size).all λj=>match ops[j]? with
  |some oj=>oj.after.toList.all (λe => !Region.binds .any e || decide (e.on < j)) &&
   (List.range j).all λi=>(ms.getD j 0).testBit i || (match ops[i]? with
    |some oi=>oi.apart ops oj
    |none=>true)
  |none=>true
def kK (ops:Array Oper) (i:Nat):Bool:=match ops[i]? with
 |some o=>nV T o
 |none=>true
def Fg (ops:Array Oper) (ms:List Nat):List (Nat × Nat) :=
 (List.range ops.size).flatMap λj=>(List.range j).filterMap λi=>if (ms.getD j 0).testBit i || kK T ops i || kK T ops j then none else some (i,j)
def vT (ks:List Nat):List (Nat × Nat)->Bool
 | []=>true
 |(i,j)::r=>lE (ks.getD i 2) (ks.getD j 2) && vT ks r


end
end Go.Am
namespace Go.Am

theorem ET.aaa:∀ p:DD,ET.get p .leaf=undef
 | .here=>rfl
 | .l _=>rfl
 | .r _=>rfl
theorem ET.aM:∀ (p q:DD) (v:ai) (t:ET),(p=q->ET.get q (ET.set p v t)=v)/\(p≠q->ET.get q (ET.set p v t)=ET.get q t)
 | .here,.here,v,t=>⟨λ_=>by cases t <;> rfl,λh=>(h rfl).elim⟩
 | .here,.l q,v,t=>⟨λh=>(by cases h),λ_=>by
  cases t with
  |leaf=>exact ET.aaa q
  |node x l r=>rfl⟩
 | .here,.r q,v,t=>⟨λh=>(by cases h),λ_=>by
  cases t with
  |leaf=>exact ET.aaa q
  |node x l r=>rfl⟩
 | .l p,.here,v,t=>⟨λh=>(by cases h),λ_=>by cases t <;> rfl⟩
 | .r p,.here,v,t=>⟨λh=>(by cases h),λ_=>by cases t <;> rfl⟩
 | .l p,.r q,v,t=>⟨λh=>(by cases h),λ_=>by
  cases t with
  |leaf=>exact ET.aaa q
  |node x l r=>rfl⟩
 | .r p,.l q,v,t=>⟨λh=>(by cases h),λ_=>by
  cases t with
  |leaf=>exact ET.aaa q
  |node x l r=>rfl⟩
 | .l p,.l q,v,t=>by
  cases t with
  |leaf=>exact ⟨λh=>(ET.aM p q v .leaf).1 (DD.l.inj h),λh=>((ET.aM p q v .leaf).2 (λe=>h (by rw [e]))).trans (ET.aaa q)⟩
  |node x l r=>exact ⟨λh=>(ET.aM p q v l).1 (DD.l.inj h),λh=>(ET.aM p q v l).2 (λe=>h (by rw [e]))⟩
 | .r p,.r q,v,t=>by
  cases t with
  |leaf=>exact ⟨λh=>(ET.aM p q v .leaf).1 (DD.r.inj h),λh=>((ET.aM p q v .leaf).2 (λe=>h (by rw [e]))).trans (ET.aaa q)⟩
  |node x l r=>exact ⟨λh=>(ET.aM p q v r).1 (DD.r.inj h),λh=>(ET.aM p q v r).2 (λe=>h (by rw [e]))⟩




section
variable {P:Program} {T:bx} {ov:Ov}








theorem zjh (ks:List Nat):∀ ps:List (Nat × Nat),vT ks ps=true->∀ i j,(i,j)∈ps->lE (ks.getD i 2) (ks.getD j 2)=true
 | [],_,_,_,h=>by cases h
 |(a,b)::r,h,i,j,hm=>by
  simp only [vT,dj] at h
  rcases dg.1 hm with h1|h1
  .cases h1;exact h.1
  .exact zjh ks r h.2 i j h1
theorem zup {ops:Array Oper} {ms ks:List Nat} (h1:zI ops ms=true) (h2:vT ks (Fg T ops ms)=true) (h3:∀ i,i < ops.size->kK T ops i=true->ks.getD i 2=0):Da ops ks ms=true:=by
 unfold Da
 rw [gz]
 intro j hj
 have DT:j < ops.size:=pQ.1 hj
 unfold zI at h1
 have h1:=gz.1 h1 j hj
 unfold EH
 split
 .rename_i oj nH
  rw [nH] at h1
  simp only [dj] at h1 ⊢
  refine ⟨h1.1,?_⟩
  rw [gz]
  intro i hi
  have ej:i < j:=pQ.1 hi
  have h4:=gz.1 h1.2 i hi
  cases ht:(ms.getD j 0).testBit i with
  |true=>rfl
  |false =>
   rw [ht] at h4
   simp only [DA] at h4 ⊢
   split at h4
   .rename_i oi xp
    rw [xp]
    simp only
    rw [dj]
    refine ⟨h4,?_⟩
    cases vo:kK T ops i with
    |true=>rw [h3 i (by omega) vo];rfl
    |false =>
     cases DO:kK T ops j with
     |true=>rw [h3 j DT DO];simp [lE]
     |false =>
      refine zjh ks _ h2 i j ?_
      unfold Fg
      rw [List.mem_flatMap]
      refine ⟨j,hj,?_⟩
      rw [List.mem_filterMap]
      exact ⟨i,hi,by rw [ht,vo,DO];rfl⟩
   .rename_i xp;rw [xp]
 .rfl










end
end Go.Am
namespace Go.Am
open Go.ChangeShapes Go.WideShapes Go.ChangeAt Go.RowKit

section
variable {H:Type} {enc:TypeId × ai->H} {P:Program}
theorem zwB {f:Func} {s:ChangeSpec} {apart fresh handsOn again:Bool} {W W':World} {args:Array ai} {v:ai} {ds gs:List (DataW H)} {before pa pv:List MemPlace}
 (hW:DataW.Whole enc P f.params.toList s.vars apart W args.toList ds gs before)
 (iT:∀ (b:Nat) (sp:Nat->Bool) (hd:Bool),DataW.TrodAll enc P W' b sp hd f.resultTypes.toList (v.resultList f.resultTypes.size) (s.fn H (ds++gs)).results [])
 (dE:∀ sp:Nat->Bool,(∀ p∈before,sp p.block=true)->DataW.TrodAll enc P W' 0 sp true f.params.toList args.toList (s.fn H (ds++gs)).args pa)
 (nM:∀ sp:Nat->Bool,(∀ p∈before,sp p.block=true)->DataW.TrodVars enc P W' sp s.vars (s.fn H (ds++gs)).vars pv)
 (tK:before=pa++pv) (hb:Below W.heap.size W W')
 (cX:∀ (j:Nat) (t:TypeId) (r:ai),f.resultTypes[j]? = some t->(v.resultList f.resultTypes.size)[j]? = some r->Value.okWide P W' .any 0 t r) :
 s.post enc P f apart fresh handsOn again W args v W':=by
 have below:∀ p∈before,p.block < W.heap.size:=λp hp=>hW.lt p hp
 have eh:∀ p∈before,(λb=>decide (b < W.heap.size)) p.block=true:=λp hp=>by simpa using below p hp
 have mem:∀ p,p∈before↔p∈([]++pa)++pv:=λp=>by rw [tK];simp
 refine ⟨ds,gs,before,[],pa,pv,hW,iT _ _ _,dE _ eh,nM _ eh,World.keptBut_mono (λp hp=>⟨hp,?_⟩) (hb.frame (·∈before)),λ_=>?_⟩
 .rw [tK,ju] at hp
  exact .inr hp
 obtain ⟨_,_,_,_,_,hz,hn⟩:=hW
 refine ⟨cX,_,_,([]++pa)++pv,⟨[]++pa,pv,trodAll_append (dE _ (λ_ _=>rfl)) (iT _ _ _),nM _ (λ_ _=>rfl),rfl,λb off hp=>?_,λha=>?_⟩,?_⟩
 .have aT:=(mem _).2 hp
  rw [hb.frozen (below _ aT)]
  exact hz b off aT
 .have:=hn ha
  rw [tK] at this
  simpa using this
 .exact λp hp _=>(mem p).2 hp
end


end Go.Am
