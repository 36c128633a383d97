/- Steps on values without addresses. No condition. -/
import Derived.Test.YtjildadoepadeaaGreatDoorGSym
import Derived.Laws.Strings
set_option linter.unusedSimpArgs false
namespace Go.Am
variable {Z:Type} {a b:Int} {k:IntKind} {x:Operand} {t:TypeId}
section
variable {P:Program} {T:bm} {ov:Ov} {d:Option Tmp} {ty:TypeId} {pos:String} {af:Array Edge} {g:Option (Nat × Bool)} {e:Env} {h:Heap} {K:aF}

theorem HR (k:Program->Sem Z):dX P (program >>= k)=dX P (k P):=rfl
theorem pF (a:Z):dX P (pure a:Sem Z)=some a:=rfl
theorem IB {β:Type} (a:Z) (k:Z->Sem β):((pure a:Sem Z) >>= k)=k a:=rfl
theorem IX {β:Type} (a:Z) (k:Z->β):k <$> (pure a:Sem Z)=pure (k a):=rfl
theorem bp {p:Prop} [Decidable p] (h1:p->K (.bool true) h) (h2:¬ p->K (.bool false) h):pJ (decide p) h K :=
 ⟨λhp=>h1 (of_decide_eq_true hp),λhp=>h2 (of_decide_eq_false hp)⟩
theorem sj (h1:a=b->K (.bool true) h) (h2:¬ a=b->K (.bool false) h):pJ (a == b) h K :=
 ⟨λhp=>h1 (by simpa using hp),λhp=>h2 (by simpa using hp)⟩
theorem gD (h1:¬ a=b->K (.bool true) h) (h2:a=b->K (.bool false) h):pJ (a != b) h K :=
 ⟨λhp=>h1 (by simpa using hp),λhp=>h2 (by simpa using hp)⟩
def gG (s:aA) (i:Nat):Int:=((s[i]?).getD 0).toNat
theorem pE {i:Operand} {s:aA} {j:Int} (hd:P.underlying t=some .string) (hx:aX e x=.string s) (hi:aX e i=.int k j) (h0:0<=j) (h1:j < s.size)
 (hk:K (.int .u8 (gG s j.toNat)) h):cK (eP P e ⟨d,.index t x i,ty,pos,af,g⟩ h) K:=by
 have aS:j.toNat < s.size:=by omega
 have hs:s[j.toNat]? = some s[j.toNat]:=by simp [aS]
 have:eP P e ⟨d,.index t x i,ty,pos,af,g⟩ h=some (.int .u8 (gG s j.toNat),h):=by
  unfold eP
  rw [aC (by simp [Op.operands,hx,hi,plain,iY])]
  have:dX P (execOp (aX e) ⟨d,.index t x i,ty,pos,af,g⟩)=some (.value (.int .u8 (gG s j.toNat))):=by
   simp [execOp,Instr.index,hx,hi,asIntOf,underlying,hd,h0,hs,HR,pF,IB,IX,gG]
  rw [this]
  rfl
 rw [this]
 exact hk
theorem bK {b:Bool} (hx:aX e x=.bool b) (hk:K (.bool !b) h):cK (eP P e ⟨d,.unOp .not t x,ty,pos,af,g⟩ h) K:=by
 have:eP P e ⟨d,.unOp .not t x,ty,pos,af,g⟩ h=some (.bool !b,h):=by
  unfold eP
  rw [aC (by simp [Op.operands,hx,plain,iY])]
  have:dX P (execOp (aX e) ⟨d,.unOp .not t x,ty,pos,af,g⟩)=some (.value (.bool !b)):=by
   simp [execOp,hx,Op.unary,HR,pF,IB,IX]
  rw [this]
  rfl
 rw [this]
 exact hk
theorem N1 {y:Operand} {fc:Array TypeId} (hx:aX e x=.int k a) (hy:aX e y=.int k b) (hk:K (.int k (if b < a then b else a)) h):cK (eP P e ⟨d,.call ⟨.builtin .min,#[x,y],fc⟩,ty,pos,af,g⟩ h) K:=by
 have:eP P e ⟨d,.call ⟨.builtin .min,#[x,y],fc⟩,ty,pos,af,g⟩ h=some (.int k (if b < a then b else a),h):=by
  unfold eP
  rw [aC (by simp [Op.operands,Call.operands,hx,hy,plain,iY])]
  have:dX P (execOp (aX e) ⟨d,.call ⟨.builtin .min,#[x,y],fc⟩,ty,pos,af,g⟩)=some (.value (.int k (if b < a then b else a))):=by
   simp [execOp,hx,hy,resolve,invoke,builtin,Builtin.min_,Builtin.min2,HR,pF,IB,IX]
  rw [this]
  rfl
 rw [this]
 exact hk
theorem Uq {y:Operand} {fc:Array TypeId} (hx:aX e x=.int k a) (hy:aX e y=.int k b) (hk:K (.int k (if a < b then b else a)) h):cK (eP P e ⟨d,.call ⟨.builtin .max,#[x,y],fc⟩,ty,pos,af,g⟩ h) K:=by
 have:eP P e ⟨d,.call ⟨.builtin .max,#[x,y],fc⟩,ty,pos,af,g⟩ h=some (.int k (if a < b then b else a),h):=by
  unfold eP
  rw [aC (by simp [Op.operands,Call.operands,hx,hy,plain,iY])]
  have:dX P (execOp (aX e) ⟨d,.call ⟨.builtin .max,#[x,y],fc⟩,ty,pos,af,g⟩)=some (.value (.int k (if a < b then b else a))):=by
   simp [execOp,hx,hy,resolve,invoke,builtin,Builtin.max_,Builtin.max2,HR,pF,IB,IX]
  rw [this]
  rfl
 rw [this]
 exact hk

theorem NS {op:BinOp} {a b:aA} {v:ai} (hp:plain v=true) (hv:dX P (Op.stringOp op a b)=some v) (hb:nL op (.string a) (.string b)=none):bD P T op t (.string a) (.string b)=some v:=by
 have h1:(T.desc t).bind (λd=>zw d (.string a) (.string b))=none:=by
  cases T.desc t with
  |none=>rfl
  |some d=>cases d <;> rfl
 have h2:dX P (binOp op t (.string a) (.string b))=some v:=by
  rw [<- hv]
  cases op <;> rfl
 unfold bD
 rw [hb]
 simp only [h1,h2]
 rw [aC (show (plain (Value.string a) && plain (Value.string b))=true from rfl)]
 simp only [cM]
 rw [aC hp]
theorem HF (a:aA):a.toList=a.data.toList:=ByteArray.toList_eq a
theorem AO {a b:aA} (hs:a.size+b.size<=9223372036854775807):bD P T .add t (.string a) (.string b)=some (.string (a++b)):=by
 refine NS rfl ?_ rfl
 unfold Op.stringOp
 simp only
 rw [ay (by simp only [IntKind.max,IntKind.signed,IntKind.bits];simp;omega)]
 rfl
theorem zvI {t:TypeId} {a b:aA}:bD P T .eql t (.string a) (.string b)=some (.bool (decide (a=b))):=by
 refine NS rfl ?_ rfl
 have:(a.toList == b.toList)=decide (a=b):=by
  rw [HF,HF]
  by_cases h:a=b
  .subst h;simp
  .have h2:a.data≠b.data:=λhh=>h (by cases a;cases b;simp at hh;simp [hh])
   simp [h,h2]
 unfold Op.stringOp
 simp only [this]
 rfl
theorem zvJ {t:TypeId} {a b:aA}:bD P T .neq t (.string a) (.string b)=some (.bool (decide (a≠b))):=by
 refine NS rfl ?_ rfl
 have:(a.toList == b.toList)=decide (a=b):=by
  rw [HF,HF]
  by_cases h:a=b
  .subst h;simp
  .have h2:a.data≠b.data:=λhh=>h (by cases a;cases b;simp at hh;simp [hh])
   simp [h,h2]
 unfold Op.stringOp
 simp only [this]
 simp [pF]
end
end Go.Am
namespace Go.Am
variable {b:bd} {h:Heap}
structure Holds (h:Heap) (A:Nat) (b:bd):Prop where
 lt:A < h.size
 get:h.get A=some b
theorem Holds.ext {h':Heap} {A:Nat} (hh:Holds h A b) (hx:Ext h h'):Holds h' A b:=⟨eR hh.lt hx.size,(hx.get A hh.lt).trans hh.get⟩
theorem Holds.top {h':Heap} {l:List bd} {w i:Nat} (hx:Ext (h.lay l w) h') (hi:l[i]? = some b):Holds h' (h.size+i) b:=by
 have hl:i < l.length:=(fB.1 hi).1
 refine Holds.ext ⟨by rw [cF];omega,?_⟩ hx
 rw [iL]
 exact hi
theorem Holds.lay {h:Heap} {A:Nat} {b:bd} (hh:Holds h A b) (l:List bd) (w:Nat):(h.lay l w).get A=some b:=(uz h l w hh.lt).trans hh.get
theorem Holds.on {A:Nat} (hh:Holds h A b) (l:List bd) (w:Nat):Holds (h.lay l w) A b:=⟨by rw [cF];have:=hh.lt;omega,hh.lay l w⟩
theorem Ext.over {h1 h2:Heap} {l:List bd} (z:Ext h h1) (x:Ext (h1.lay l h1.low) h2):Ext h h2:=(z.trans (NY _ _ _ (sx _ _))).trans x
theorem Ext.up {h1:Heap} (z:Ext h h1) (l:List bd):Ext h (h1.lay l h1.low):=z.trans (NY _ _ _ (sx _ _))

section
variable {T:bm} {t e:TypeId} {k bytes:Nat} {z:List ai}
theorem zvo (hd:T.desc t=some (.slice e)) (hi:T.info e=some (k,bytes,z)) (hk:0 < k) {x:ai} {m:Nat} {news:List ai} (hs:gA x k h=some (m,news)) (hm:0 < m) (h1:news.all one=true) (hb:m*bytes<=140737488355328) (hl:m<=1152921504606846976) :
 lA T t (.slice none 0 0) x h=some (.slice (some ⟨h.size,0,none⟩) m (G*k+m),h.push (.row news e false)):=by
 unfold lA
 simp only [hd,hi,hs,cM]
 rw [ay (by omega),ay,ay]
 .have hG:0 < G:=by unfold G;omega
  simp [lO,hG]
 .have:0 % G=0:=Nat.zero_mod _
  omega
 .simp only [nY,jW,zo,h1,not_or]
  refine ⟨⟨⟨by omega,by simp;omega⟩,by omega⟩,by simp⟩
theorem zto (hd:T.desc t=some (.slice e)) (hi:T.info e=some (k,bytes,z)) (hk:0 < k) {x:ai} {B n m:Nat} {dt news:List ai} (hg:h.get B=some (.row dt e false)) (ho:dt.length=n*k) (hn:0 < n)
 (hs:gA x k h=some (m,news)) (hm:0 < m) (h1:news.all one=true) (hb:(n+m)*bytes<=140737488355328) (hl:n+m<=1152921504606846976) :
 lA T t (.slice (some ⟨B,0,none⟩) n (G*k+n)) x h=some (.slice (some ⟨h.size,0,none⟩) (n+m) (G*k+(n+m)),(h.set B .dead).push (.row (dt++news) e false)):=by
 obtain ⟨c1,c2,c3⟩:=wc (k:=k) (q:=n) hk (by unfold G;omega)
 have Wk:n*k≠0:=by
  have:=Nat.mul_pos hn hk
  omega
 have iv:cut dt 0 (n*k)=some dt:=by
  unfold cut
  rw [aC (by omega),<- ho]
  simp
 unfold lA
 simp only [hd,hi,hs,cM]
 rw [ay (by omega),ay,ay (by rw [c2];omega)]
 .simp only [lO,Wk,if_false,ia,hg,iv,cM]
  rw [ay (by omega)]
  simp [c3]
 .simp only [nY,jW,zo,h1,not_or]
  exact ⟨⟨⟨by omega,by omega⟩,by omega⟩,by simp⟩
end
theorem Tr.gX:∀ (n m:Nat) (t:Tr) (i:Nat) (a b:bd),i < n->i < m->Tr.set n (Tr.set m t i a) i b=Tr.set n t i b
 |0,_,_,_,_,_,h,_=>by omega
 |_,0,_,_,_,_,_,h=>by omega
 |n+1,m+1,t,i,a,b,hn,hm=>by
  cases i with
  |zero=>cases t <;> rfl
  |succ i =>
   cases t with
   |nil=>by_cases hp:(i % 2 == 0)=true <;> simp only [Tr.set,hp,if_true,if_false,fb] <;> rw [Tr.gX n m .nil (i / 2) a b (by omega) (by omega)]
   |node v l r =>
    by_cases hp:(i % 2 == 0)=true <;> simp only [Tr.set,hp,if_true,if_false,fb]
    .rw [Tr.gX n m l (i / 2) a b (by omega) (by omega)]
    .rw [Tr.gX n m r (i / 2) a b (by omega) (by omega)]
theorem Tr.set_comm:∀ (n m:Nat) (t:Tr) (i j:Nat) (a b:bd),i≠j->i < m->j < n->Tr.set n (Tr.set m t i a) j b=Tr.set m (Tr.set n t j b) i a
 |0,_,_,_,_,_,_,_,_,h=>by omega
 |_,0,_,_,_,_,_,_,h,_=>by omega
 |n+1,m+1,t,i,j,a,b,gj,hm,hn=>by
  have hdiv:∀ {i j:Nat},i≠j->i % 2=j % 2->i / 2≠j / 2:=by intro i j h1 h2;omega
  cases i with
  |zero =>
   cases j with
   |zero=>exact (gj rfl).elim
   |succ j=>cases t <;> by_cases hj:(j % 2 == 0)=true <;> simp only [Tr.set,hj,if_true,if_false,fb]
  |succ i =>
   cases j with
   |zero=>cases t <;> by_cases hi:(i % 2 == 0)=true <;> simp only [Tr.set,hi,if_true,if_false,fb]
   |succ j =>
    cases t with
    |nil =>
     by_cases hi:(i % 2 == 0)=true <;> by_cases hj:(j % 2 == 0)=true <;> simp only [Tr.set,hi,hj,if_true,if_false,fb]
     .rw [Tr.set_comm n m .nil (i / 2) (j / 2) a b (hdiv (by omega) (by simp at hi hj;omega)) (by omega) (by omega)]
     .rw [Tr.set_comm n m .nil (i / 2) (j / 2) a b (hdiv (by omega) (by simp at hi hj;omega)) (by omega) (by omega)]
    |node v l r =>
     by_cases hi:(i % 2 == 0)=true <;> by_cases hj:(j % 2 == 0)=true <;> simp only [Tr.set,hi,hj,if_true,if_false,fb]
     .rw [Tr.set_comm n m l (i / 2) (j / 2) a b (hdiv (by omega) (by simp at hi hj;omega)) (by omega) (by omega)]
     .rw [Tr.set_comm n m r (i / 2) (j / 2) a b (hdiv (by omega) (by simp at hi hj;omega)) (by omega) (by omega)]
theorem zr6 (l:List bd):∀ (h:Heap) (i:Nat) (b:bd),i < l.length->((l.foldl Heap.push h).tr.set (h.size+i+1) (h.size+i) b)=((l.set i b).foldl Heap.push h).tr:=by
 have push:∀ (l:List bd) (h:Heap) (A:Nat) (b:bd),A < h.size->(l.foldl Heap.push h).tr.set (A+1) A b=(l.foldl Heap.push { h with tr:=h.tr.set (A+1) A b }).tr:=by
  intro l
  induction l with
  |nil=>intro h A b _;rfl
  |cons c l ih =>
   intro h A b hA
   rw [pL,pL,ih (h.push c) A b (by rw [Heap.size_push];omega)]
   congr 2
   simp only [Heap.push,Heap.mk.injEq,true_and,and_true]
   exact Tr.set_comm _ _ _ _ _ _ _ (by omega) (by omega) (by omega)
 induction l with
 |nil=>intro h i b hi;simp at hi
 |cons c l ih =>
  intro h i b hi
  cases i with
  |zero =>
   simp only [iN,pL,iZ]
   rw [push l (h.push c) h.size b (by rw [Heap.size_push];omega)]
   congr 2
   simp only [Heap.push,Heap.mk.injEq,true_and,and_true]
   exact Tr.gX _ _ _ _ _ _ (by omega) (by omega)
  |succ i =>
   rw [pL,List.set_cons_succ,pL]
   have:=ih (h.push c) i b (by simpa using hi)
   rw [Heap.size_push] at this
   rw [show h.size+(i+1)=h.size+1+i by omega]
   exact this
theorem zwl (h:Heap) (l:List bd) (w i:Nat) (b:bd) (hi:i < l.length):(h.lay l w).set (h.size+i) b=h.lay (l.set i b) (min w (h.size+i)):=by
 unfold Heap.lay Heap.set
 simp only [Heap.mk.injEq]
 refine ⟨?_,zr6 l h i b hi,trivial⟩
 rw [HN,HN,List.length_set]
def oF (b:Option bd) (i o:Nat) (vs:List ai) (h:Heap) (l:List bd) (w:Nat):Option Heap:=match b with
 |some (.row cs e false)=>if (decide (o+vs.length<=cs.length) && vs.all one)=true then some (h.lay (l.set i (.row (an cs o vs) e false)) (min w (h.size+i))) else none
 |_=>none
theorem i7 (cs:List ai) (e:TypeId) (i o:Nat) (vs:List ai) (h:Heap) (l:List bd) (w:Nat) :
 oF (some (.row cs e false)) i o vs h l w=if (decide (o+vs.length<=cs.length) && vs.all one)=true then some (h.lay (l.set i (.row (an cs o vs) e false)) (min w (h.size+i))) else none:=rfl
theorem si {T:bm} {t n:Nat} (hs:c9 T t=some n) (h:Heap) (l:List bd) (w i o:Nat) (v:ai) (hi:i < l.length) :
 gm T t (.pointer (some ⟨h.size+i,o,none⟩)) v (h.lay l w)=if v.cells.size=n then oF l[i]? i o v.cells.toList h l w else none:=by
 simp only [gm,hs,cM]
 split
 .unfold nQ
  rw [iL]
  generalize hb:l[i]? = b
  cases b with
  |none=>rfl
  |some b =>
   cases b with
   |row cs e ro =>
    cases ro with
    |true=>rfl
    |false =>
     simp only [oF]
     split
     .rw [zwl _ _ _ _ _ hi]
     .rfl
   |_=>rfl
 .rfl
section
variable {T:bm} {t e:TypeId} {bytes:Nat} {z:List ai}
end
end Go.Am
