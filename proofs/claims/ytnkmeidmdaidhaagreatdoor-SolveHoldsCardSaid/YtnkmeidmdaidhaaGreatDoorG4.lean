/- Steps on values without addresses. No condition. -/
import Derived.Test.YtnkmeidmdaidhaaGreatDoorGSym
import Derived.Laws.Strings
import Derived.ProofKit
import Derived.ChangeSame
set_option linter.unusedSimpArgs false
namespace Go.Am
variable {Z:Type} {a b:Int} {k:IntKind} {x:Operand} {t:TypeId}
section
variable {P:Program} {T:bN} {ov:Ov} {d:Option Tmp} {ty:TypeId} {pos:String} {af:Array Edge} {g:Option (Nat × Bool)} {e:Env} {h:Heap} {K:aO}

theorem Oe (k:Program->Sem Z):gd P (program >>= k)=gd P (k P):=rfl
theorem B0 (a:Z):gd P (pure a:Sem Z)=some a:=rfl
theorem O4 {β:Type} (a:Z) (k:Z->Sem β):((pure a:Sem Z) >>= k)=k a:=rfl
theorem Po {β:Type} (a:Z) (k:Z->β):k <$> (pure a:Sem Z)=pure (k a):=rfl
theorem cm {p:Prop} [Decidable p] (h1:p->K (.bool true) h) (h2:¬ p->K (.bool false) h):tL (decide p) h K :=
 ⟨λhp=>h1 (of_decide_eq_true hp),λhp=>h2 (of_decide_eq_false hp)⟩
theorem oQ (h1:a=b->K (.bool true) h) (h2:¬ a=b->K (.bool false) h):tL (a == b) h K :=
 ⟨λhp=>h1 (by simpa using hp),λhp=>h2 (by simpa using hp)⟩
theorem su (h1:¬ a=b->K (.bool true) h) (h2:a=b->K (.bool false) h):tL (a != b) h K :=
 ⟨λhp=>h1 (by simpa using hp),λhp=>h2 (by simpa using hp)⟩
def kH (s:aV) (i:Nat):Int:=((s[i]?).getD 0).toNat
theorem zoA {i:Operand} {s:aV} {j:Int} (hd:P.underlying t=some .string) (hx:bE e x=.string s) (hi:bE e i=.int k j) (h0:0<=j) (h1:j < s.size)
 (hk:K (.int .u8 (kH s j.toNat)) h):dz (gD P e ⟨d,.index t x i,ty,pos,af,g⟩ h) K:=by
 have bc:j.toNat < s.size:=by omega
 have hs:s[j.toNat]? = some s[j.toNat]:=by simp [bc]
 have:gD P e ⟨d,.index t x i,ty,pos,af,g⟩ h=some (.int .u8 (kH s j.toNat),h):=by
  unfold gD
  rw [aB (by simp [Op.operands,hx,hi,plain,ld])]
  have:gd P (execOp (bE e) ⟨d,.index t x i,ty,pos,af,g⟩)=some (.value (.int .u8 (kH s j.toNat))):=by
   simp [execOp,Instr.index,hx,hi,asIntOf,underlying,hd,h0,hs,Oe,B0,O4,Po,kH]
  rw [this]
  rfl
 rw [this]
 exact hk
theorem cK {b:Bool} (hx:bE e x=.bool b) (hk:K (.bool !b) h):dz (gD P e ⟨d,.unOp .not t x,ty,pos,af,g⟩ h) K:=by
 have:gD P e ⟨d,.unOp .not t x,ty,pos,af,g⟩ h=some (.bool !b,h):=by
  unfold gD
  rw [aB (by simp [Op.operands,hx,plain,ld])]
  have:gd P (execOp (bE e) ⟨d,.unOp .not t x,ty,pos,af,g⟩)=some (.value (.bool !b)):=by
   simp [execOp,hx,Op.unary,Oe,B0,O4,Po]
  rw [this]
  rfl
 rw [this]
 exact hk
theorem O1 {y:Operand} {ia:Array TypeId} (hx:bE e x=.int k a) (hy:bE e y=.int k b) (hk:K (.int k (if b < a then b else a)) h):dz (gD P e ⟨d,.call ⟨.builtin .min,#[x,y],ia⟩,ty,pos,af,g⟩ h) K:=by
 have:gD P e ⟨d,.call ⟨.builtin .min,#[x,y],ia⟩,ty,pos,af,g⟩ h=some (.int k (if b < a then b else a),h):=by
  unfold gD
  rw [aB (by simp [Op.operands,Call.operands,hx,hy,plain,ld])]
  have:gd P (execOp (bE e) ⟨d,.call ⟨.builtin .min,#[x,y],ia⟩,ty,pos,af,g⟩)=some (.value (.int k (if b < a then b else a))):=by
   simp [execOp,hx,hy,resolve,invoke,builtin,Builtin.min_,Builtin.min2,Oe,B0,O4,Po]
  rw [this]
  rfl
 rw [this]
 exact hk
theorem O8 {y:Operand} {ia:Array TypeId} (hx:bE e x=.int k a) (hy:bE e y=.int k b) (hk:K (.int k (if a < b then b else a)) h):dz (gD P e ⟨d,.call ⟨.builtin .max,#[x,y],ia⟩,ty,pos,af,g⟩ h) K:=by
 have:gD P e ⟨d,.call ⟨.builtin .max,#[x,y],ia⟩,ty,pos,af,g⟩ h=some (.int k (if a < b then b else a),h):=by
  unfold gD
  rw [aB (by simp [Op.operands,Call.operands,hx,hy,plain,ld])]
  have:gd P (execOp (bE e) ⟨d,.call ⟨.builtin .max,#[x,y],ia⟩,ty,pos,af,g⟩)=some (.value (.int k (if a < b then b else a))):=by
   simp [execOp,hx,hy,resolve,invoke,builtin,Builtin.max_,Builtin.max2,Oe,B0,O4,Po]
  rw [this]
  rfl
 rw [this]
 exact hk

theorem LD {op:BinOp} {a b:aV} {v:ai} (hp:plain v=true) (hv:gd P (Op.stringOp op a b)=some v) (hb:qy op (.string a) (.string b)=none):cE P T op t (.string a) (.string b)=some v:=by
 have h1:(T.desc t).bind (λd=>Cn d (.string a) (.string b))=none:=by
  cases T.desc t with
  |none=>rfl
  |some d=>cases d <;> rfl
 have h2:gd P (binOp op t (.string a) (.string b))=some v:=by
  rw [<- hv]
  cases op <;> rfl
 unfold cE
 rw [hb]
 simp only [h1,h2]
 rw [aB (show (plain (Value.string a) && plain (Value.string b))=true from rfl)]
 simp only [dH]
 rw [aB hp]
theorem BG (a:aV):a.toList=a.data.toList:=ByteArray.toList_eq a
theorem OY {a b:aV} (hs:a.size+b.size<=9223372036854775807):cE P T .add t (.string a) (.string b)=some (.string (a++b)):=by
 refine LD rfl ?_ rfl
 unfold Op.stringOp
 simp only
 rw [aA (by simp only [IntKind.max,IntKind.signed,IntKind.bits];simp;omega)]
 rfl
theorem zzO {t:TypeId} {a b:aV}:cE P T .eql t (.string a) (.string b)=some (.bool (decide (a=b))):=by
 refine LD rfl ?_ rfl
 have:(a.toList == b.toList)=decide (a=b):=by
  rw [BG,BG]
  by_cases h:a=b
  .subst h;simp
  .have h2:a.data≠b.data:=λhh=>h (by cases a;cases b;simp at hh;simp [hh])
   simp [h,h2]
 unfold Op.stringOp
 simp only [this]
 rfl
theorem zzP {t:TypeId} {a b:aV}:cE P T .neq t (.string a) (.string b)=some (.bool (decide (a≠b))):=by
 refine LD rfl ?_ rfl
 have:(a.toList == b.toList)=decide (a=b):=by
  rw [BG,BG]
  by_cases h:a=b
  .subst h;simp
  .have h2:a.data≠b.data:=λhh=>h (by cases a;cases b;simp at hh;simp [hh])
   simp [h,h2]
 unfold Op.stringOp
 simp only [this]
 simp [B0]
end
end Go.Am
namespace Go.Am
variable {b:aZ} {h:Heap}
structure ak (h:Heap) (A:Nat) (b:aZ):Prop where
 lt:A < h.size
 get:h.get A=some b
theorem ak.ext {h':Heap} {A:Nat} (hh:ak h A b) (hx:Ext h h'):ak h' A b:=⟨dt hh.lt hx.size,(hx.get A hh.lt).trans hh.get⟩
theorem ak.top {h':Heap} {l:List aZ} {w i:Nat} (hx:Ext (h.lay l w) h') (hi:l[i]? = some b):ak h' (h.size+i) b:=by
 have hl:i < l.length:=(fR.1 hi).1
 refine ak.ext ⟨by rw [br];omega,?_⟩ hx
 rw [kE]
 exact hi
theorem ak.lay {h:Heap} {A:Nat} {b:aZ} (hh:ak h A b) (l:List aZ) (w:Nat):(h.lay l w).get A=some b:=(sd h l w hh.lt).trans hh.get
theorem ak.on {A:Nat} (hh:ak h A b) (l:List aZ) (w:Nat):ak (h.lay l w) A b:=⟨by rw [br];have:=hh.lt;omega,hh.lay l w⟩
theorem Ext.over {h1 h2:Heap} {l:List aZ} (z:Ext h h1) (x:Ext (h1.lay l h1.low) h2):Ext h h2:=(z.trans (LX _ _ _ (xj _ _))).trans x
theorem Ext.up {h1:Heap} (z:Ext h h1) (l:List aZ):Ext h (h1.lay l h1.low):=z.trans (LX _ _ _ (xj _ _))

section
variable {T:bN} {t e:TypeId} {k bytes:Nat} {z:List ai}
theorem zuX (hd:T.desc t=some (.slice e)) (hi:T.info e=some (k,bytes,z)) (hk:0 < k) {x:ai} {m:Nat} {news:List ai} (hs:fO x k h=some (m,news)) (hm:0 < m) (h1:news.all one=true) (hb:m*bytes<=140737488355328) (hl:m<=1152921504606846976) :
 j4 T t (.slice none 0 0) x h=some (.slice (some ⟨h.size,0,none⟩) m (G*k+m),h.push (.row news e false)):=by
 unfold j4
 simp only [hd,hi,hs,dH]
 rw [aA (by omega),aA,aA]
 .have hG:0 < G:=by unfold G;omega
  simp [mJ,hG]
 .have:0 % G=0:=Nat.zero_mod _
  omega
 .simp only [sF,ix,yi,h1,not_or]
  refine ⟨⟨⟨by omega,by simp;omega⟩,by omega⟩,by simp⟩
theorem zxv (hd:T.desc t=some (.slice e)) (hi:T.info e=some (k,bytes,z)) (hk:0 < k) {x:ai} {B n m:Nat} {eA news:List ai} (hg:h.get B=some (.row eA e false)) (ho:eA.length=n*k) (hn:0 < n)
 (hs:fO x k h=some (m,news)) (hm:0 < m) (h1:news.all one=true) (hb:(n+m)*bytes<=140737488355328) (hl:n+m<=1152921504606846976) :
 j4 T t (.slice (some ⟨B,0,none⟩) n (G*k+n)) x h=some (.slice (some ⟨h.size,0,none⟩) (n+m) (G*k+(n+m)),(h.set B .dead).push (.row (eA++news) e false)):=by
 obtain ⟨c1,c2,c3⟩:=BZ (k:=k) (q:=n) hk (by unfold G;omega)
 have hnk:n*k≠0:=by
  have:=Nat.mul_pos hn hk
  omega
 have vt:cut eA 0 (n*k)=some eA:=by
  unfold cut
  rw [aB (by omega),<- ho]
  simp
 unfold j4
 simp only [hd,hi,hs,dH]
 rw [aA (by omega),aA,aA (by rw [c2];omega)]
 .simp only [mJ,hnk,if_false,kA,hg,vt,dH]
  rw [aA (by omega)]
  simp [c3]
 .simp only [sF,ix,yi,h1,not_or]
  exact ⟨⟨⟨by omega,by omega⟩,by omega⟩,by simp⟩
end
theorem Tr.j3:∀ (n m:Nat) (t:Tr) (i:Nat) (a b:aZ),i < n->i < m->Tr.set n (Tr.set m t i a) i b=Tr.set n t i b
 |0,_,_,_,_,_,h,_=>by omega
 |_,0,_,_,_,_,_,h=>by omega
 |n+1,m+1,t,i,a,b,hn,hm=>by
  cases i with
  |zero=>cases t <;> rfl
  |succ i =>
   cases t with
   |nil=>by_cases hp:(i % 2 == 0)=true <;> simp only [Tr.set,hp,if_true,if_false,gH] <;> rw [Tr.j3 n m .nil (i / 2) a b (by omega) (by omega)]
   |node v l r =>
    by_cases hp:(i % 2 == 0)=true <;> simp only [Tr.set,hp,if_true,if_false,gH]
    .rw [Tr.j3 n m l (i / 2) a b (by omega) (by omega)]
    .rw [Tr.j3 n m r (i / 2) a b (by omega) (by omega)]
theorem Tr.set_comm:∀ (n m:Nat) (t:Tr) (i j:Nat) (a b:aZ),i≠j->i < m->j < n->Tr.set n (Tr.set m t i a) j b=Tr.set m (Tr.set n t j b) i a
 |0,_,_,_,_,_,_,_,_,h=>by omega
 |_,0,_,_,_,_,_,_,h,_=>by omega
 |n+1,m+1,t,i,j,a,b,fk,hm,hn=>by
  have hdiv:∀ {i j:Nat},i≠j->i % 2=j % 2->i / 2≠j / 2:=by intro i j h1 h2;omega
  cases i with
  |zero =>
   cases j with
   |zero=>exact (fk rfl).elim
   |succ j=>cases t <;> by_cases hj:(j % 2 == 0)=true <;> simp only [Tr.set,hj,if_true,if_false,gH]
  |succ i =>
   cases j with
   |zero=>cases t <;> by_cases hi:(i % 2 == 0)=true <;> simp only [Tr.set,hi,if_true,if_false,gH]
   |succ j =>
    cases t with
    |nil =>
     by_cases hi:(i % 2 == 0)=true <;> by_cases hj:(j % 2 == 0)=true <;> simp only [Tr.set,hi,hj,if_true,if_false,gH]
     .rw [Tr.set_comm n m .nil (i / 2) (j / 2) a b (hdiv (by omega) (by simp at hi hj;omega)) (by omega) (by omega)]
     .rw [Tr.set_comm n m .nil (i / 2) (j / 2) a b (hdiv (by omega) (by simp at hi hj;omega)) (by omega) (by omega)]
    |node v l r =>
     by_cases hi:(i % 2 == 0)=true <;> by_cases hj:(j % 2 == 0)=true <;> simp only [Tr.set,hi,hj,if_true,if_false,gH]
     .rw [Tr.set_comm n m l (i / 2) (j / 2) a b (hdiv (by omega) (by simp at hi hj;omega)) (by omega) (by omega)]
     .rw [Tr.set_comm n m r (i / 2) (j / 2) a b (hdiv (by omega) (by simp at hi hj;omega)) (by omega) (by omega)]
theorem zvK (l:List aZ):∀ (h:Heap) (i:Nat) (b:aZ),i < l.length->((l.foldl Heap.push h).tr.set (h.size+i+1) (h.size+i) b)=((l.set i b).foldl Heap.push h).tr:=by
 have push:∀ (l:List aZ) (h:Heap) (A:Nat) (b:aZ),A < h.size->(l.foldl Heap.push h).tr.set (A+1) A b=(l.foldl Heap.push { h with tr:=h.tr.set (A+1) A b }).tr:=by
  intro l
  induction l with
  |nil=>intro h A b _;rfl
  |cons c l ih =>
   intro h A b hA
   rw [tP,tP,ih (h.push c) A b (by rw [Heap.size_push];omega)]
   congr 2
   simp only [Heap.push,Heap.mk.injEq,true_and,and_true]
   exact Tr.set_comm _ _ _ _ _ _ _ (by omega) (by omega) (by omega)
 induction l with
 |nil=>intro h i b hi;simp at hi
 |cons c l ih =>
  intro h i b hi
  cases i with
  |zero =>
   simp only [gS,tP,fW]
   rw [push l (h.push c) h.size b (by rw [Heap.size_push];omega)]
   congr 2
   simp only [Heap.push,Heap.mk.injEq,true_and,and_true]
   exact Tr.j3 _ _ _ _ _ _ (by omega) (by omega)
  |succ i =>
   rw [tP,Ce,tP]
   have:=ih (h.push c) i b (by simpa using hi)
   rw [Heap.size_push] at this
   rw [show h.size+(i+1)=h.size+1+i by omega]
   exact this
theorem GI (h:Heap) (l:List aZ) (w i:Nat) (b:aZ) (hi:i < l.length):(h.lay l w).set (h.size+i) b=h.lay (l.set i b) (min w (h.size+i)):=by
 unfold Heap.lay Heap.set
 simp only [Heap.mk.injEq]
 refine ⟨?_,zvK l h i b hi,trivial⟩
 rw [Ob,Ob,iS]
def uC (b:Option aZ) (i o:Nat) (vs:List ai) (h:Heap) (l:List aZ) (w:Nat):Option Heap:=match b with
 |some (.row cs e false)=>if (decide (o+vs.length<=cs.length) && vs.all one)=true then some (h.lay (l.set i (.row (aI cs o vs) e false)) (min w (h.size+i))) else none
 |_=>none
theorem iw (cs:List ai) (e:TypeId) (i o:Nat) (vs:List ai) (h:Heap) (l:List aZ) (w:Nat) :
 uC (some (.row cs e false)) i o vs h l w=if (decide (o+vs.length<=cs.length) && vs.all one)=true then some (h.lay (l.set i (.row (aI cs o vs) e false)) (min w (h.size+i))) else none:=rfl
theorem Aa {T:bN} {t n:Nat} (hs:dF T t=some n) (h:Heap) (l:List aZ) (w i o:Nat) (v:ai) (hi:i < l.length) :
 iQ T t (.pointer (some ⟨h.size+i,o,none⟩)) v (h.lay l w)=if v.cells.size=n then uC l[i]? i o v.cells.toList h l w else none:=by
 simp only [iQ,hs,dH]
 split
 .unfold nQ
  rw [kE]
  generalize hb:l[i]? = b
  cases b with
  |none=>rfl
  |some b =>
   cases b with
   |row cs e ro =>
    cases ro with
    |true=>rfl
    |false =>
     simp only [uC]
     split
     .rw [GI _ _ _ _ _ hi]
     .rfl
   |_=>rfl
 .rfl
section
variable {T:bN} {t e:TypeId} {bytes:Nat} {z:List ai}
end
end Go.Am
namespace Go.Am

inductive tR where
 |here
 |l (p:tR)
 |r (p:tR)
inductive ET where
 |leaf
 |node (v:ai) (l r:ET)
noncomputable def ET.get (p:tR):ET->ai :=
 tR.rec (motive:=λ_=>ET->ai) (λt=>ET.casesOn t undef λv _ _=>v) (λ_ ih t=>ET.casesOn t undef λ_ l _=>ih l) (λ_ ih t=>ET.casesOn t undef λ_ _ r=>ih r) p
noncomputable def ET.set (p:tR) (v:ai):ET->ET :=
 tR.rec (motive:=λ_=>ET->ET) (λt=>ET.casesOn t (.node v .leaf .leaf) λ_ l r=>.node v l r) (λ_ ih t=>ET.casesOn t (.node undef (ih .leaf) .leaf) λx l r=>.node x (ih l) r)
  (λ_ ih t=>ET.casesOn t (.node undef .leaf (ih .leaf)) λx l r=>.node x l (ih r)) p

structure FE where
 n:Nat
 t:ET

abbrev FK:=ai->Heap->Bool




section
variable (P:Program) (T:bN)


variable (C:Fn->List ai->Heap->FK->Bool)



def Gz (ops:Array Oper) (ms:List Nat):Bool :=
 (List.range ops.size).all λj=>match ops[j]? with
  |some oj=>oj.after.toList.all (λe => !Region.binds .any e || decide (e.on < j)) &&
   (List.range j).all λi=>(ms.getD j 0).testBit i || (match ops[i]? with
    |some oi=>oi.apart ops oj
    |none=>true)
  |none=>true
def EO (ops:Array Oper) (i:Nat):Bool:=match ops[i]? with
 |some o=>rG T o
 |none=>true


end
end Go.Am
namespace Go.Am

theorem ET.gv:∀ p:tR,ET.get p .leaf=undef
 | .here=>rfl
 | .l _=>rfl
 | .r _=>rfl
theorem ET.aH:∀ (p q:tR) (v:ai) (t:ET),(p=q->ET.get q (ET.set p v t)=v)/\(p≠q->ET.get q (ET.set p v t)=ET.get q t)
 | .here,.here,v,t=>⟨λ_=>by cases t <;> rfl,λh=>(h rfl).elim⟩
 | .here,.l q,v,t=>⟨λh=>(by cases h),λ_=>by
  cases t with
  |leaf=>exact ET.gv q
  |node x l r=>rfl⟩
 | .here,.r q,v,t=>⟨λh=>(by cases h),λ_=>by
  cases t with
  |leaf=>exact ET.gv q
  |node x l r=>rfl⟩
 | .l p,.here,v,t=>⟨λh=>(by cases h),λ_=>by cases t <;> rfl⟩
 | .r p,.here,v,t=>⟨λh=>(by cases h),λ_=>by cases t <;> rfl⟩
 | .l p,.r q,v,t=>⟨λh=>(by cases h),λ_=>by
  cases t with
  |leaf=>exact ET.gv q
  |node x l r=>rfl⟩
 | .r p,.l q,v,t=>⟨λh=>(by cases h),λ_=>by
  cases t with
  |leaf=>exact ET.gv q
  |node x l r=>rfl⟩
 | .l p,.l q,v,t=>by
  cases t with
  |leaf=>exact ⟨λh=>(ET.aH p q v .leaf).1 (tR.l.inj h),λh=>((ET.aH p q v .leaf).2 (λe=>h (by rw [e]))).trans (ET.gv q)⟩
  |node x l r=>exact ⟨λh=>(ET.aH p q v l).1 (tR.l.inj h),λh=>(ET.aH p q v l).2 (λe=>h (by rw [e]))⟩
 | .r p,.r q,v,t=>by
  cases t with
  |leaf=>exact ⟨λh=>(ET.aH p q v .leaf).1 (tR.r.inj h),λh=>((ET.aH p q v .leaf).2 (λe=>h (by rw [e]))).trans (ET.gv q)⟩
  |node x l r=>exact ⟨λh=>(ET.aH p q v r).1 (tR.r.inj h),λh=>(ET.aH p q v r).2 (λe=>h (by rw [e]))⟩




section
variable {P:Program} {T:bN} {ov:Ov}


















end
end Go.Am
namespace Go.Am
open Go.ChangeShapes Go.WideShapes Go.ChangeAt Go.RowKit

section
variable {H:Type} {enc:TypeId × ai->H} {P:Program}
theorem zxM {f:Func} {s:ChangeSpec} {apart fresh handsOn again:Bool} {W W':World} {args:Array ai} {v:ai} {ds gs:List (DataW H)} {before pa pv:List MemPlace}
 (hW:DataW.Whole enc P f.params.toList s.vars apart W args.toList ds gs before)
 (jV:∀ (b:Nat) (sp:Nat->Bool) (hd:Bool),DataW.TrodAll enc P W' b sp hd f.resultTypes.toList (v.resultList f.resultTypes.size) (s.fn H (ds++gs)).results [])
 (ef:∀ sp:Nat->Bool,(∀ p∈before,sp p.block=true)->DataW.TrodAll enc P W' 0 sp true f.params.toList args.toList (s.fn H (ds++gs)).args pa)
 (pN:∀ sp:Nat->Bool,(∀ p∈before,sp p.block=true)->DataW.TrodVars enc P W' sp s.vars (s.fn H (ds++gs)).vars pv)
 (FR:before=pa++pv) (hb:Below W.heap.size W W')
 (df:∀ (j:Nat) (t:TypeId) (r:ai),f.resultTypes[j]? = some t->(v.resultList f.resultTypes.size)[j]? = some r->Value.okWide P W' .any 0 t r) :
 s.post enc P f apart fresh handsOn again W args v W':=by
 have below:∀ p∈before,p.block < W.heap.size:=λp hp=>hW.lt p hp
 have eA:∀ p∈before,(λb=>decide (b < W.heap.size)) p.block=true:=λp hp=>by simpa using below p hp
 have mem:∀ p,p∈before↔p∈([]++pa)++pv:=λp=>by rw [FR];simp
 refine ⟨ds,gs,before,[],pa,pv,hW,jV _ _ _,ef _ eA,pN _ eA,World.keptBut_mono (λp hp=>⟨hp,?_⟩) (hb.frame (·∈before)),λ_=>?_⟩
 .rw [FR,iT] at hp
  exact .inr hp
 obtain ⟨_,_,_,_,_,hz,hn⟩:=hW
 refine ⟨df,_,_,([]++pa)++pv,⟨[]++pa,pv,trodAll_append (ef _ (λ_ _=>rfl)) (jV _ _ _),pN _ (λ_ _=>rfl),rfl,λb off hp=>?_,λha=>?_⟩,?_⟩
 .have aU:=(mem _).2 hp
  rw [hb.frozen (below _ aU)]
  exact hz b off aU
 .have:=hn ha
  rw [FR] at this
  simpa using this
 .exact λp hp _=>(mem p).2 hp
end


end Go.Am
