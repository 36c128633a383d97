/- Steps on values without addresses. No condition. -/
import Derived.Test.YtmamldleclamjaaGreatDoorGSym
import Derived.Laws.Strings
import Derived.ProofKit
import Derived.ChangeSame
set_option linter.unusedSimpArgs false
namespace Go.Am
variable {Z:Type} {a b:Int} {k:IntKind} {x:Operand} {t:TypeId}
section
variable {P:Program} {T:bO} {ov:Ov} {d:Option Tmp} {ty:TypeId} {pos:String} {af:Array Edge} {g:Option (Nat × Bool)} {e:Env} {h:Heap} {K:aI}

theorem SO (k:Program->Sem Z):jf P (program >>= k)=jf P (k P):=rfl
theorem Ad (a:Z):jf P (pure a:Sem Z)=some a:=rfl
theorem TF {β:Type} (a:Z) (k:Z->Sem β):((pure a:Sem Z) >>= k)=k a:=rfl
theorem TN {β:Type} (a:Z) (k:Z->β):k <$> (pure a:Sem Z)=pure (k a):=rfl
theorem bq {p:Prop} [Decidable p] (h1:p->K (.bool true) h) (h2:¬ p->K (.bool false) h):sj (decide p) h K :=
 ⟨λhp=>h1 (of_decide_eq_true hp),λhp=>h2 (of_decide_eq_false hp)⟩
theorem qh (h1:a=b->K (.bool true) h) (h2:¬ a=b->K (.bool false) h):sj (a == b) h K :=
 ⟨λhp=>h1 (by simpa using hp),λhp=>h2 (by simpa using hp)⟩
theorem iS (h1:¬ a=b->K (.bool true) h) (h2:a=b->K (.bool false) h):sj (a != b) h K :=
 ⟨λhp=>h1 (by simpa using hp),λhp=>h2 (by simpa using hp)⟩
def lQ (s:au) (i:Nat):Int:=((s[i]?).getD 0).toNat
theorem GZ {i:Operand} {s:au} {j:Int} (hd:P.underlying t=some .string) (hx:bz e x=.string s) (hi:bz e i=.int k j) (h0:0<=j) (h1:j < s.size)
 (hk:K (.int .u8 (lQ s j.toNat)) h):dw (iZ P e ⟨d,.index t x i,ty,pos,af,g⟩ h) K:=by
 have aW:j.toNat < s.size:=by omega
 have hs:s[j.toNat]? = some s[j.toNat]:=by simp [aW]
 have:iZ P e ⟨d,.index t x i,ty,pos,af,g⟩ h=some (.int .u8 (lQ s j.toNat),h):=by
  unfold iZ
  rw [aB (by simp [Op.operands,hx,hi,plain,mz])]
  have:jf P (execOp (bz e) ⟨d,.index t x i,ty,pos,af,g⟩)=some (.value (.int .u8 (lQ s j.toNat))):=by
   simp [execOp,Instr.index,hx,hi,asIntOf,underlying,hd,h0,hs,SO,Ad,TF,TN,lQ]
  rw [this]
  rfl
 rw [this]
 exact hk
theorem ct {b:Bool} (hx:bz e x=.bool b) (hk:K (.bool !b) h):dw (iZ P e ⟨d,.unOp .not t x,ty,pos,af,g⟩ h) K:=by
 have:iZ P e ⟨d,.unOp .not t x,ty,pos,af,g⟩ h=some (.bool !b,h):=by
  unfold iZ
  rw [aB (by simp [Op.operands,hx,plain,mz])]
  have:jf P (execOp (bz e) ⟨d,.unOp .not t x,ty,pos,af,g⟩)=some (.value (.bool !b)):=by
   simp [execOp,hx,Op.unary,SO,Ad,TF,TN]
  rw [this]
  rfl
 rw [this]
 exact hk
theorem zwR {y:Operand} {ats:Array TypeId} (hx:bz e x=.int k a) (hy:bz e y=.int k b) (hk:K (.int k (if b < a then b else a)) h):dw (iZ P e ⟨d,.call ⟨.builtin .min,#[x,y],ats⟩,ty,pos,af,g⟩ h) K:=by
 have:iZ P e ⟨d,.call ⟨.builtin .min,#[x,y],ats⟩,ty,pos,af,g⟩ h=some (.int k (if b < a then b else a),h):=by
  unfold iZ
  rw [aB (by simp [Op.operands,Call.operands,hx,hy,plain,mz])]
  have:jf P (execOp (bz e) ⟨d,.call ⟨.builtin .min,#[x,y],ats⟩,ty,pos,af,g⟩)=some (.value (.int k (if b < a then b else a))):=by
   simp [execOp,hx,hy,resolve,invoke,builtin,Builtin.min_,Builtin.min2,SO,Ad,TF,TN]
  rw [this]
  rfl
 rw [this]
 exact hk
theorem zwO {y:Operand} {ats:Array TypeId} (hx:bz e x=.int k a) (hy:bz e y=.int k b) (hk:K (.int k (if a < b then b else a)) h):dw (iZ P e ⟨d,.call ⟨.builtin .max,#[x,y],ats⟩,ty,pos,af,g⟩ h) K:=by
 have:iZ P e ⟨d,.call ⟨.builtin .max,#[x,y],ats⟩,ty,pos,af,g⟩ h=some (.int k (if a < b then b else a),h):=by
  unfold iZ
  rw [aB (by simp [Op.operands,Call.operands,hx,hy,plain,mz])]
  have:jf P (execOp (bz e) ⟨d,.call ⟨.builtin .max,#[x,y],ats⟩,ty,pos,af,g⟩)=some (.value (.int k (if a < b then b else a))):=by
   simp [execOp,hx,hy,resolve,invoke,builtin,Builtin.max_,Builtin.max2,SO,Ad,TF,TN]
  rw [this]
  rfl
 rw [this]
 exact hk

theorem Jd {op:BinOp} {a b:au} {v:ah} (hp:plain v=true) (hv:jf P (Op.stringOp op a b)=some v) (hb:r8 op (.string a) (.string b)=none):cm P T op t (.string a) (.string b)=some v:=by
 have h1:(T.desc t).bind (λd=>DV d (.string a) (.string b))=none:=by
  cases T.desc t with
  |none=>rfl
  |some d=>cases d <;> rfl
 have h2:jf P (binOp op t (.string a) (.string b))=some v:=by
  rw [<- hv]
  cases op <;> rfl
 unfold cm
 rw [hb]
 simp only [h1,h2]
 rw [aB (show (plain (Value.string a) && plain (Value.string b))=true from rfl)]
 simp only [dX]
 rw [aB hp]
theorem GS (a:au):a.toList=a.data.toList:=ByteArray.toList_eq a
theorem zAZ {a b:au} (hs:a.size+b.size<=9223372036854775807):cm P T .add t (.string a) (.string b)=some (.string (a++b)):=by
 refine Jd rfl ?_ rfl
 unfold Op.stringOp
 simp only
 rw [aA (by simp only [IntKind.max,IntKind.signed,IntKind.bits];simp;omega)]
 rfl
theorem zA7 {t:TypeId} {a b:au}:cm P T .eql t (.string a) (.string b)=some (.bool (decide (a=b))):=by
 refine Jd rfl ?_ rfl
 have:(a.toList == b.toList)=decide (a=b):=by
  rw [GS,GS]
  by_cases h:a=b
  .subst h;simp
  .have h2:a.data≠b.data:=λhh=>h (by cases a;cases b;simp at hh;simp [hh])
   simp [h,h2]
 unfold Op.stringOp
 simp only [this]
 rfl
theorem zA9 {t:TypeId} {a b:au}:cm P T .neq t (.string a) (.string b)=some (.bool (decide (a≠b))):=by
 refine Jd rfl ?_ rfl
 have:(a.toList == b.toList)=decide (a=b):=by
  rw [GS,GS]
  by_cases h:a=b
  .subst h;simp
  .have h2:a.data≠b.data:=λhh=>h (by cases a;cases b;simp at hh;simp [hh])
   simp [h,h2]
 unfold Op.stringOp
 simp only [this]
 simp [Ad]
theorem zA8 {a b:au}:cm P T .lss t (.string a) (.string b)=some (.bool (Op.bytesLess a.data.toList b.data.toList)):=by
 refine Jd rfl ?_ rfl
 unfold Op.stringOp
 simp only [GS]
 rfl
end
end Go.Am
namespace Go.Am
variable {b:ba} {h:Heap}
structure Holds (h:Heap) (A:Nat) (b:ba):Prop where
 lt:A < h.size
 get:h.get A=some b
theorem Holds.ext {h':Heap} {A:Nat} (hh:Holds h A b) (hx:Ext h h'):Holds h' A b:=⟨dJ hh.lt hx.size,(hx.get A hh.lt).trans hh.get⟩
theorem Holds.top {h':Heap} {l:List ba} {w i:Nat} (hx:Ext (h.lay l w) h') (hi:l[i]? = some b):Holds h' (h.size+i) b:=by
 have hl:i < l.length:=(dH.1 hi).1
 refine Holds.ext ⟨by rw [bd];omega,?_⟩ hx
 rw [iB]
 exact hi
theorem Holds.lay {h:Heap} {A:Nat} {b:ba} (hh:Holds h A b) (l:List ba) (w:Nat):(h.lay l w).get A=some b:=(uo h l w hh.lt).trans hh.get
theorem Holds.on {A:Nat} (hh:Holds h A b) (l:List ba) (w:Nat):Holds (h.lay l w) A b:=⟨by rw [bd];have:=hh.lt;omega,hh.lay l w⟩
theorem Ext.over {h1 h2:Heap} {l:List ba} (z:Ext h h1) (x:Ext (h1.lay l h1.low) h2):Ext h h2:=(z.trans (TD _ _ _ (w9 _ _))).trans x
theorem Ext.up {h1:Heap} (z:Ext h h1) (l:List ba):Ext h (h1.lay l h1.low):=z.trans (TD _ _ _ (w9 _ _))

section
variable {T:bO} {t e:TypeId} {k bytes:Nat} {z:List ah}
theorem zvC (hd:T.desc t=some (.slice e)) (hi:T.info e=some (k,bytes,z)) (hk:0 < k) {x:ah} {m:Nat} {news:List ah} (hs:fN x k h=some (m,news)) (hm:0 < m) (h1:news.all one=true) (hb:m*bytes<=140737488355328) (hl:m<=1152921504606846976) :
 iy T t (.slice none 0 0) x h=some (.slice (some ⟨h.size,0,none⟩) m (G*k+m),h.push (.row news e false)):=by
 unfold iy
 simp only [hd,hi,hs,dX]
 rw [aA (by omega),aA,aA]
 .have hG:0 < G:=by unfold G;omega
  simp [ma,hG]
 .have:0 % G=0:=Nat.zero_mod _
  omega
 .simp only [su,jl,DT,h1,not_or]
  refine ⟨⟨⟨by omega,by simp;omega⟩,by omega⟩,by simp⟩
theorem zyy (hd:T.desc t=some (.slice e)) (hi:T.info e=some (k,bytes,z)) (hk:0 < k) {x:ah} {B n m:Nat} {eD news:List ah} (hg:h.get B=some (.row eD e false)) (ho:eD.length=n*k) (hn:0 < n)
 (hs:fN x k h=some (m,news)) (hm:0 < m) (h1:news.all one=true) (hb:(n+m)*bytes<=140737488355328) (hl:n+m<=1152921504606846976) :
 iy T t (.slice (some ⟨B,0,none⟩) n (G*k+n)) x h=some (.slice (some ⟨h.size,0,none⟩) (n+m) (G*k+(n+m)),(h.set B .dead).push (.row (eD++news) e false)):=by
 obtain ⟨c1,c2,c3⟩:=B1 (k:=k) (q:=n) hk (by unfold G;omega)
 have hnk:n*k≠0:=by
  have:=Nat.mul_pos hn hk
  omega
 have km:cut eD 0 (n*k)=some eD:=by
  unfold cut
  rw [aB (by omega),<- ho]
  simp
 unfold iy
 simp only [hd,hi,hs,dX]
 rw [aA (by omega),aA,aA (by rw [c2];omega)]
 .simp only [ma,hnk,if_false,iQ,hg,km,dX]
  rw [aA (by omega)]
  simp [c3]
 .simp only [su,jl,DT,h1,not_or]
  exact ⟨⟨⟨by omega,by omega⟩,by omega⟩,by simp⟩
end
theorem Tr.lh:∀ (n m:Nat) (t:Tr) (i:Nat) (a b:ba),i < n->i < m->Tr.set n (Tr.set m t i a) i b=Tr.set n t i b
 |0,_,_,_,_,_,h,_=>by omega
 |_,0,_,_,_,_,_,h=>by omega
 |n+1,m+1,t,i,a,b,hn,hm=>by
  cases i with
  |zero=>cases t <;> rfl
  |succ i =>
   cases t with
   |nil=>by_cases hp:(i % 2 == 0)=true <;> simp only [Tr.set,hp,if_true,if_false,gB] <;> rw [Tr.lh n m .nil (i / 2) a b (by omega) (by omega)]
   |node v l r =>
    by_cases hp:(i % 2 == 0)=true <;> simp only [Tr.set,hp,if_true,if_false,gB]
    .rw [Tr.lh n m l (i / 2) a b (by omega) (by omega)]
    .rw [Tr.lh n m r (i / 2) a b (by omega) (by omega)]
theorem Tr.set_comm:∀ (n m:Nat) (t:Tr) (i j:Nat) (a b:ba),i≠j->i < m->j < n->Tr.set n (Tr.set m t i a) j b=Tr.set m (Tr.set n t j b) i a
 |0,_,_,_,_,_,_,_,_,h=>by omega
 |_,0,_,_,_,_,_,_,h,_=>by omega
 |n+1,m+1,t,i,j,a,b,dp,hm,hn=>by
  have hdiv:∀ {i j:Nat},i≠j->i % 2=j % 2->i / 2≠j / 2:=by intro i j h1 h2;omega
  cases i with
  |zero =>
   cases j with
   |zero=>exact (dp rfl).elim
   |succ j=>cases t <;> by_cases hj:(j % 2 == 0)=true <;> simp only [Tr.set,hj,if_true,if_false,gB]
  |succ i =>
   cases j with
   |zero=>cases t <;> by_cases hi:(i % 2 == 0)=true <;> simp only [Tr.set,hi,if_true,if_false,gB]
   |succ j =>
    cases t with
    |nil =>
     by_cases hi:(i % 2 == 0)=true <;> by_cases hj:(j % 2 == 0)=true <;> simp only [Tr.set,hi,hj,if_true,if_false,gB]
     .rw [Tr.set_comm n m .nil (i / 2) (j / 2) a b (hdiv (by omega) (by simp at hi hj;omega)) (by omega) (by omega)]
     .rw [Tr.set_comm n m .nil (i / 2) (j / 2) a b (hdiv (by omega) (by simp at hi hj;omega)) (by omega) (by omega)]
    |node v l r =>
     by_cases hi:(i % 2 == 0)=true <;> by_cases hj:(j % 2 == 0)=true <;> simp only [Tr.set,hi,hj,if_true,if_false,gB]
     .rw [Tr.set_comm n m l (i / 2) (j / 2) a b (hdiv (by omega) (by simp at hi hj;omega)) (by omega) (by omega)]
     .rw [Tr.set_comm n m r (i / 2) (j / 2) a b (hdiv (by omega) (by simp at hi hj;omega)) (by omega) (by omega)]
theorem zwt (l:List ba):∀ (h:Heap) (i:Nat) (b:ba),i < l.length->((l.foldl Heap.push h).tr.set (h.size+i+1) (h.size+i) b)=((l.set i b).foldl Heap.push h).tr:=by
 have push:∀ (l:List ba) (h:Heap) (A:Nat) (b:ba),A < h.size->(l.foldl Heap.push h).tr.set (A+1) A b=(l.foldl Heap.push { h with tr:=h.tr.set (A+1) A b }).tr:=by
  intro l
  induction l with
  |nil=>intro h A b _;rfl
  |cons c l ih =>
   intro h A b hA
   rw [uG,uG,ih (h.push c) A b (by rw [Heap.size_push];omega)]
   congr 2
   simp only [Heap.push,Heap.mk.injEq,true_and,and_true]
   exact Tr.set_comm _ _ _ _ _ _ _ (by omega) (by omega) (by omega)
 induction l with
 |nil=>intro h i b hi;simp at hi
 |cons c l ih =>
  intro h i b hi
  cases i with
  |zero =>
   simp only [i0,uG,nR]
   rw [push l (h.push c) h.size b (by rw [Heap.size_push];omega)]
   congr 2
   simp only [Heap.push,Heap.mk.injEq,true_and,and_true]
   exact Tr.lh _ _ _ _ _ _ (by omega) (by omega)
  |succ i =>
   rw [uG,List.set_cons_succ,uG]
   have:=ih (h.push c) i b (by simpa using hi)
   rw [Heap.size_push] at this
   rw [show h.size+(i+1)=h.size+1+i by omega]
   exact this
theorem zq2 (h:Heap) (l:List ba) (w i:Nat) (b:ba) (hi:i < l.length):(h.lay l w).set (h.size+i) b=h.lay (l.set i b) (min w (h.size+i)):=by
 unfold Heap.lay Heap.set
 simp only [Heap.mk.injEq]
 refine ⟨?_,zwt l h i b hi,trivial⟩
 rw [SI,SI,nB]
def uC (b:Option ba) (i o:Nat) (vs:List ah) (h:Heap) (l:List ba) (w:Nat):Option Heap:=match b with
 |some (.row cs e false)=>if (decide (o+vs.length<=cs.length) && vs.all one)=true then some (h.lay (l.set i (.row (aF cs o vs) e false)) (min w (h.size+i))) else none
 |_=>none
theorem r5 (cs:List ah) (e:TypeId) (i o:Nat) (vs:List ah) (h:Heap) (l:List ba) (w:Nat) :
 uC (some (.row cs e false)) i o vs h l w=if (decide (o+vs.length<=cs.length) && vs.all one)=true then some (h.lay (l.set i (.row (aF cs o vs) e false)) (min w (h.size+i))) else none:=rfl
theorem y6 {T:bO} {t n:Nat} (hs:di T t=some n) (h:Heap) (l:List ba) (w i o:Nat) (v:ah) (hi:i < l.length) :
 iO T t (.pointer (some ⟨h.size+i,o,none⟩)) v (h.lay l w)=if v.cells.size=n then uC l[i]? i o v.cells.toList h l w else none:=by
 simp only [iO,hs,dX]
 split
 .unfold lY
  rw [iB]
  generalize hb:l[i]? = b
  cases b with
  |none=>rfl
  |some b =>
   cases b with
   |row cs e ro =>
    cases ro with
    |true=>rfl
    |false =>
     simp only [uC]
     split
     .rw [zq2 _ _ _ _ _ hi]
     .rfl
   |_=>rfl
 .rfl
section
variable {T:bO} {t e:TypeId} {bytes:Nat} {z:List ah}
end
end Go.Am
namespace Go.Am

inductive wh where
 |here
 |l (p:wh)
 |r (p:wh)
inductive ET where
 |leaf
 |node (v:ah) (l r:ET)
noncomputable def ET.get (p:wh):ET->ah :=
 wh.rec (motive:=λ_=>ET->ah) (λt=>ET.casesOn t undef λv _ _=>v) (λ_ ih t=>ET.casesOn t undef λ_ l _=>ih l) (λ_ ih t=>ET.casesOn t undef λ_ _ r=>ih r) p
noncomputable def ET.set (p:wh) (v:ah):ET->ET :=
 wh.rec (motive:=λ_=>ET->ET) (λt=>ET.casesOn t (.node v .leaf .leaf) λ_ l r=>.node v l r) (λ_ ih t=>ET.casesOn t (.node undef (ih .leaf) .leaf) λx l r=>.node x (ih l) r)
  (λ_ ih t=>ET.casesOn t (.node undef .leaf (ih .leaf)) λx l r=>.node x l (ih r)) p

structure FE where
 n:Nat
 t:ET

abbrev FK:=ah->Heap->Bool




section
variable (P:Program) (T:bO)


variable (C:Fn->List ah->Heap->FK->Bool)



def IZ (ops:Array Oper) (ms:List Nat):Bool :=
 (List.range ops.size).all λj=>match ops[j]? with
  |some oj=>oj.after.toList.all (λe => !Region.binds .any e || decide (e.on < j)) &&
   (List.range j).all λi=>(ms.getD j 0).testBit i || (match ops[i]? with
    |some oi=>oi.apart ops oj
    |none=>true)
  |none=>true
def Ha (ops:Array Oper) (i:Nat):Bool:=match ops[i]? with
 |some o=>tB T o
 |none=>true


end
end Go.Am
namespace Go.Am

theorem ET.ij:∀ p:wh,ET.get p .leaf=undef
 | .here=>rfl
 | .l _=>rfl
 | .r _=>rfl
theorem ET.aJ:∀ (p q:wh) (v:ah) (t:ET),(p=q->ET.get q (ET.set p v t)=v)/\(p≠q->ET.get q (ET.set p v t)=ET.get q t)
 | .here,.here,v,t=>⟨λ_=>by cases t <;> rfl,λh=>(h rfl).elim⟩
 | .here,.l q,v,t=>⟨λh=>(by cases h),λ_=>by
  cases t with
  |leaf=>exact ET.ij q
  |node x l r=>rfl⟩
 | .here,.r q,v,t=>⟨λh=>(by cases h),λ_=>by
  cases t with
  |leaf=>exact ET.ij q
  |node x l r=>rfl⟩
 | .l p,.here,v,t=>⟨λh=>(by cases h),λ_=>by cases t <;> rfl⟩
 | .r p,.here,v,t=>⟨λh=>(by cases h),λ_=>by cases t <;> rfl⟩
 | .l p,.r q,v,t=>⟨λh=>(by cases h),λ_=>by
  cases t with
  |leaf=>exact ET.ij q
  |node x l r=>rfl⟩
 | .r p,.l q,v,t=>⟨λh=>(by cases h),λ_=>by
  cases t with
  |leaf=>exact ET.ij q
  |node x l r=>rfl⟩
 | .l p,.l q,v,t=>by
  cases t with
  |leaf=>exact ⟨λh=>(ET.aJ p q v .leaf).1 (wh.l.inj h),λh=>((ET.aJ p q v .leaf).2 (λe=>h (by rw [e]))).trans (ET.ij q)⟩
  |node x l r=>exact ⟨λh=>(ET.aJ p q v l).1 (wh.l.inj h),λh=>(ET.aJ p q v l).2 (λe=>h (by rw [e]))⟩
 | .r p,.r q,v,t=>by
  cases t with
  |leaf=>exact ⟨λh=>(ET.aJ p q v .leaf).1 (wh.r.inj h),λh=>((ET.aJ p q v .leaf).2 (λe=>h (by rw [e]))).trans (ET.ij q)⟩
  |node x l r=>exact ⟨λh=>(ET.aJ p q v r).1 (wh.r.inj h),λh=>(ET.aJ p q v r).2 (λe=>h (by rw [e]))⟩




section
variable {P:Program} {T:bO} {ov:Ov}


















end
end Go.Am
namespace Go.Am
open Go.ChangeShapes Go.WideShapes Go.ChangeAt Go.RowKit

section
variable {H:Type} {enc:TypeId × ah->H} {P:Program}
theorem zyJ {f:Func} {s:ChangeSpec} {apart fresh handsOn again:Bool} {W W':World} {args:Array ah} {v:ah} {ds gs:List (DataW H)} {before pa pv:List MemPlace}
 (hW:DataW.Whole enc P f.params.toList s.vars apart W args.toList ds gs before)
 (jU:∀ (b:Nat) (sp:Nat->Bool) (hd:Bool),DataW.TrodAll enc P W' b sp hd f.resultTypes.toList (v.resultList f.resultTypes.size) (s.fn H (ds++gs)).results [])
 (dP:∀ sp:Nat->Bool,(∀ p∈before,sp p.block=true)->DataW.TrodAll enc P W' 0 sp true f.params.toList args.toList (s.fn H (ds++gs)).args pa)
 (qY:∀ sp:Nat->Bool,(∀ p∈before,sp p.block=true)->DataW.TrodVars enc P W' sp s.vars (s.fn H (ds++gs)).vars pv)
 (Io:before=pa++pv) (hb:Below W.heap.size W W')
 (cE:∀ (j:Nat) (t:TypeId) (r:ah),f.resultTypes[j]? = some t->(v.resultList f.resultTypes.size)[j]? = some r->Value.okWide P W' .any 0 t r) :
 s.post enc P f apart fresh handsOn again W args v W':=by
 have below:∀ p∈before,p.block < W.heap.size:=λp hp=>hW.lt p hp
 have eD:∀ p∈before,(λb=>decide (b < W.heap.size)) p.block=true:=λp hp=>by simpa using below p hp
 have mem:∀ p,p∈before↔p∈([]++pa)++pv:=λp=>by rw [Io];simp
 refine ⟨ds,gs,before,[],pa,pv,hW,jU _ _ _,dP _ eD,qY _ eD,World.keptBut_mono (λp hp=>⟨hp,?_⟩) (hb.frame (·∈before)),λ_=>?_⟩
 .rw [Io,iA] at hp
  exact .inr hp
 obtain ⟨_,_,_,_,_,hz,hn⟩:=hW
 refine ⟨cE,_,_,([]++pa)++pv,⟨[]++pa,pv,trodAll_append (dP _ (λ_ _=>rfl)) (jU _ _ _),qY _ (λ_ _=>rfl),rfl,λb off hp=>?_,λha=>?_⟩,?_⟩
 .have aP:=(mem _).2 hp
  rw [hb.frozen (below _ aP)]
  exact hz b off aP
 .have:=hn ha
  rw [Io] at this
  simpa using this
 .exact λp hp _=>(mem p).2 hp
end


end Go.Am
