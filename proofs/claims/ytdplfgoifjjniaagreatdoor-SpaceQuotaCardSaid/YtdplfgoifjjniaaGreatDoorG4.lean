/- Steps on values without addresses. No condition. -/
import Derived.Test.YtdplfgoifjjniaaGreatDoorGSym
import Derived.Laws.Strings
set_option linter.unusedSimpArgs false
namespace Go.Am
section
variable {P:Program} {T:Tab} {ov:Ov} {d:Option Tmp} {ty:TypeId} {pos:String} {af:Array Edge} {g:Option (Nat × Bool)} {e:Env} {h:Heap} {K:Value→Heap→Prop}

theorem zfz {α:Type} (k:Program→Sem α):zaJ P (program >>= k)=zaJ P (k P):=rfl
theorem zdT {α:Type} (a:α):zaJ P (pure a:Sem α)=some a:=rfl
theorem zlh {α β:Type} (a:α) (k:α→Sem β):((pure a:Sem α) >>= k)=k a:=rfl
theorem zpx {α β:Type} (a:α) (k:α→β):k <$> (pure a:Sem α)=pure (k a):=rfl
theorem zaD {p:Prop} [Decidable p] (h1:p→K (.bool true) h) (h2:¬ p→K (.bool false) h):zfG (decide p) h K :=
 ⟨fun hp=>h1 (of_decide_eq_true hp),fun hp=>h2 (of_decide_eq_false hp)⟩
theorem zeR {a b:Int} (h1:a=b→K (.bool true) h) (h2:¬ a=b→K (.bool false) h):zfG (a == b) h K :=
 ⟨fun hp=>h1 (by simpa using hp),fun hp=>h2 (by simpa using hp)⟩
theorem zdS {a b:Int} (h1:¬ a=b→K (.bool true) h) (h2:a=b→K (.bool false) h):zfG (a != b) h K :=
 ⟨fun hp=>h1 (by simpa using hp),fun hp=>h2 (by simpa using hp)⟩
def zbn (s:ByteArray) (i:Nat):Int:=((s[i]?).getD 0).toNat
theorem zgs {t:TypeId} {x i:Operand} {s:ByteArray} {k:IntKind} {j:Int} (hd:P.underlying t=some .string) (hx:zab e x=.string s) (hi:zab e i=.int k j) (h0:0≤j) (h1:j < s.size)
 (hk:K (.int .u8 (zbn s j.toNat)) h):optE (zaR P e ⟨d,.index t x i,ty,pos,af,g⟩ h) K:=by
 have hlt:j.toNat < s.size:=by omega
 have hs:s[j.toNat]? = some s[j.toNat]:=by simp [hlt]
 have:zaR P e ⟨d,.index t x i,ty,pos,af,g⟩ h=some (.int .u8 (zbn s j.toNat),h):=by
  unfold zaR
  rw [if_pos (by simp [Op.operands,hx,hi,plain,zbM])]
  have:zaJ P (execOp (zab e) ⟨d,.index t x i,ty,pos,af,g⟩)=some (.value (.int .u8 (zbn s j.toNat))):=by
   simp [execOp,Instr.index,hx,hi,asIntOf,underlying,hd,h0,hs,zfz,zdT,zlh,zpx,zbn]
  rw [this]
  rfl
 rw [this]
 exact hk
theorem zar {t:TypeId} {x:Operand} {b:Bool} (hx:zab e x=.bool b) (hk:K (.bool !b) h):optE (zaR P e ⟨d,.unOp .not t x,ty,pos,af,g⟩ h) K:=by
 have:zaR P e ⟨d,.unOp .not t x,ty,pos,af,g⟩ h=some (.bool !b,h):=by
  unfold zaR
  rw [if_pos (by simp [Op.operands,hx,plain,zbM])]
  have:zaJ P (execOp (zab e) ⟨d,.unOp .not t x,ty,pos,af,g⟩)=some (.value (.bool !b)):=by
   simp [execOp,hx,Op.unary,zfz,zdT,zlh,zpx]
  rw [this]
  rfl
 rw [this]
 exact hk
theorem zf4 {x y:Operand} {ats:Array TypeId} {k:IntKind} {a b:Int} (hx:zab e x=.int k a) (hy:zab e y=.int k b) (hk:K (.int k (if b < a then b else a)) h):optE (zaR P e ⟨d,.call ⟨.builtin .min,#[x,y],ats⟩,ty,pos,af,g⟩ h) K:=by
 have:zaR P e ⟨d,.call ⟨.builtin .min,#[x,y],ats⟩,ty,pos,af,g⟩ h=some (.int k (if b < a then b else a),h):=by
  unfold zaR
  rw [if_pos (by simp [Op.operands,Call.operands,hx,hy,plain,zbM])]
  have:zaJ P (execOp (zab e) ⟨d,.call ⟨.builtin .min,#[x,y],ats⟩,ty,pos,af,g⟩)=some (.value (.int k (if b < a then b else a))):=by
   simp [execOp,hx,hy,resolve,invoke,builtin,Builtin.min_,Builtin.min2,zfz,zdT,zlh,zpx]
  rw [this]
  rfl
 rw [this]
 exact hk
theorem zy1 {x y:Operand} {ats:Array TypeId} {k:IntKind} {a b:Int} (hx:zab e x=.int k a) (hy:zab e y=.int k b) (hk:K (.int k (if a < b then b else a)) h):optE (zaR P e ⟨d,.call ⟨.builtin .max,#[x,y],ats⟩,ty,pos,af,g⟩ h) K:=by
 have:zaR P e ⟨d,.call ⟨.builtin .max,#[x,y],ats⟩,ty,pos,af,g⟩ h=some (.int k (if a < b then b else a),h):=by
  unfold zaR
  rw [if_pos (by simp [Op.operands,Call.operands,hx,hy,plain,zbM])]
  have:zaJ P (execOp (zab e) ⟨d,.call ⟨.builtin .max,#[x,y],ats⟩,ty,pos,af,g⟩)=some (.value (.int k (if a < b then b else a))):=by
   simp [execOp,hx,hy,resolve,invoke,builtin,Builtin.max_,Builtin.max2,zfz,zdT,zlh,zpx]
  rw [this]
  rfl
 rw [this]
 exact hk

theorem znx {op:BinOp} {t:TypeId} {a b:ByteArray} {v:Value} (hp:plain v=true) (hv:zaJ P (Op.stringOp op a b)=some v) (hb:zb8 op (.string a) (.string b)=none):binA P T op t (.string a) (.string b)=some v:=by
 have h1:(T.desc t).bind (fun d=>zl3 d (.string a) (.string b))=none:=by
  cases T.desc t with
  |none=>rfl
  |some d=>cases d <;> rfl
 have h2:zaJ P (binOp op t (.string a) (.string b))=some v:=by
  rw [← hv]
  cases op <;> rfl
 unfold binA
 rw [hb]
 simp only [h1,h2]
 rw [if_pos (show (plain (Value.string a) && plain (Value.string b))=true from rfl)]
 simp only [Option.bind_some]
 rw [if_pos hp]
theorem zeD (a:ByteArray):a.toList=a.data.toList:=ByteArray.toList_eq a
theorem zkA {t:TypeId} {a b:ByteArray} (hs:a.size+b.size≤9223372036854775807):binA P T .add t (.string a) (.string b)=some (.string (a++b)):=by
 refine znx rfl ?_ rfl
 unfold Op.stringOp
 simp only
 rw [if_neg (by simp only [IntKind.max,IntKind.signed,IntKind.bits];simp;omega)]
 rfl
theorem zx9 {t:TypeId} {a b:ByteArray}:binA P T .eql t (.string a) (.string b)=some (.bool (decide (a=b))):=by
 refine znx rfl ?_ rfl
 have:(a.toList == b.toList)=decide (a=b):=by
  rw [zeD,zeD]
  by_cases h:a=b
  ·subst h;simp
  ·have h2:a.data≠b.data:=fun hh=>h (by cases a;cases b;simp at hh;simp [hh])
   simp [h,h2]
 unfold Op.stringOp
 simp only [this]
 rfl
theorem zya {t:TypeId} {a b:ByteArray}:binA P T .neq t (.string a) (.string b)=some (.bool (decide (a≠b))):=by
 refine znx rfl ?_ rfl
 have:(a.toList == b.toList)=decide (a=b):=by
  rw [zeD,zeD]
  by_cases h:a=b
  ·subst h;simp
  ·have h2:a.data≠b.data:=fun hh=>h (by cases a;cases b;simp at hh;simp [hh])
   simp [h,h2]
 unfold Op.stringOp
 simp only [this]
 simp [zdT]
end
end Go.Am
namespace Go.Am
structure Holds (h:Heap) (A:Nat) (b:Blk):Prop where
 lt:A < h.size
 get:h.get A=some b
theorem Holds.ext {h h':Heap} {A:Nat} {b:Blk} (hh:Holds h A b) (hx:Ext h h'):Holds h' A b:=⟨Nat.lt_of_lt_of_le hh.lt hx.size,(hx.get A hh.lt).trans hh.get⟩
theorem Holds.top {h h':Heap} {l:List Blk} {w i:Nat} {b:Blk} (hx:Ext (h.lay l w) h') (hi:l[i]? = some b):Holds h' (h.size+i) b:=by
 have hl:i < l.length:=(List.getElem?_eq_some_iff.1 hi).1
 refine Holds.ext ⟨by rw [zad];omega,?_⟩ hx
 rw [zbd]
 exact hi
theorem Holds.lay {h:Heap} {A:Nat} {b:Blk} (hh:Holds h A b) (l:List Blk) (w:Nat):(h.lay l w).get A=some b:=(za9 h l w hh.lt).trans hh.get
theorem Holds.on {h:Heap} {A:Nat} {b:Blk} (hh:Holds h A b) (l:List Blk) (w:Nat):Holds (h.lay l w) A b:=⟨by rw [zad];have:=hh.lt;omega,hh.lay l w⟩
theorem Ext.over {h h1 h2:Heap} {l:List Blk} (z:Ext h h1) (x:Ext (h1.lay l h1.low) h2):Ext h h2:=(z.trans (zis _ _ _ (Nat.min_le_left _ _))).trans x
theorem Ext.up {h h1:Heap} (z:Ext h h1) (l:List Blk):Ext h (h1.lay l h1.low):=z.trans (zis _ _ _ (Nat.min_le_left _ _))

/-! ### Appending -/
section
variable {T:Tab} {t e:TypeId} {k bytes:Nat} {z:List Value}
theorem zrE (hd:T.desc t=some (.slice e)) (hi:T.info e=some (k,bytes,z)) (hk:0 < k) {x:Value} {m:Nat} {news:List Value} {h:Heap} (hs:srcA x k h=some (m,news)) (hm:0 < m) (h1:news.all one=true) (hb:m*bytes≤140737488355328) (hl:m≤1152921504606846976) :
 zaH T t (.slice none 0 0) x h=some (.slice (some ⟨h.size,0,none⟩) m (G*k+m),h.push (.row news e false)):=by
 unfold zaH
 simp only [hd,hi,hs,Option.bind_some]
 rw [if_neg (by omega),if_neg,if_neg]
 ·have hG:0 < G:=by unfold G;omega
  simp [zbG,hG]
 ·have:0 % G=0:=Nat.zero_mod _
  omega
 ·simp only [Bool.or_eq_true,decide_eq_true_eq,Bool.not_eq_true',h1,not_or]
  refine ⟨⟨⟨by omega,by simp;omega⟩,by omega⟩,by simp⟩
theorem zuQ (hd:T.desc t=some (.slice e)) (hi:T.info e=some (k,bytes,z)) (hk:0 < k) {x:Value} {B n m:Nat} {old news:List Value} {h:Heap} (hg:h.get B=some (.row old e false)) (ho:old.length=n*k) (hn:0 < n)
 (hs:srcA x k h=some (m,news)) (hm:0 < m) (h1:news.all one=true) (hb:(n+m)*bytes≤140737488355328) (hl:n+m≤1152921504606846976) :
 zaH T t (.slice (some ⟨B,0,none⟩) n (G*k+n)) x h=some (.slice (some ⟨h.size,0,none⟩) (n+m) (G*k+(n+m)),(h.set B .dead).push (.row (old++news) e false)):=by
 obtain ⟨c1,c2,c3⟩:=zeu (k:=k) (q:=n) hk (by unfold G;omega)
 have hnk:n*k≠0:=by
  have:=Nat.mul_pos hn hk
  omega
 have hcut:cut old 0 (n*k)=some old:=by
  unfold cut
  rw [if_pos (by omega),← ho]
  simp
 unfold zaH
 simp only [hd,hi,hs,Option.bind_some]
 rw [if_neg (by omega),if_neg,if_neg (by rw [c2];omega)]
 ·simp only [zbG,hnk,if_false,zaI,hg,hcut,Option.bind_some]
  rw [if_neg (by omega)]
  simp [c3]
 ·simp only [Bool.or_eq_true,decide_eq_true_eq,Bool.not_eq_true',h1,not_or]
  exact ⟨⟨⟨by omega,by omega⟩,by omega⟩,by simp⟩
end
/-! ### Writing into what was laid -/
theorem Tr.set_same:∀ (n m:Nat) (t:Tr) (i:Nat) (a b:Blk),i < n→i < m→Tr.set n (Tr.set m t i a) i b=Tr.set n t i b
 |0,_,_,_,_,_,h,_=>by omega
 |_,0,_,_,_,_,_,h=>by omega
 |n+1,m+1,t,i,a,b,hn,hm=>by
  cases i with
  |zero=>cases t <;> rfl
  |succ i =>
   cases t with
   |nil=>by_cases hp:(i % 2 == 0)=true <;> simp only [Tr.set,hp,if_true,if_false,Bool.false_eq_true] <;> rw [Tr.set_same n m .nil (i / 2) a b (by omega) (by omega)]
   |node v l r =>
    by_cases hp:(i % 2 == 0)=true <;> simp only [Tr.set,hp,if_true,if_false,Bool.false_eq_true]
    ·rw [Tr.set_same n m l (i / 2) a b (by omega) (by omega)]
    ·rw [Tr.set_same n m r (i / 2) a b (by omega) (by omega)]
theorem Tr.set_comm:∀ (n m:Nat) (t:Tr) (i j:Nat) (a b:Blk),i≠j→i < m→j < n→Tr.set n (Tr.set m t i a) j b=Tr.set m (Tr.set n t j b) i a
 |0,_,_,_,_,_,_,_,_,h=>by omega
 |_,0,_,_,_,_,_,_,h,_=>by omega
 |n+1,m+1,t,i,j,a,b,hij,hm,hn=>by
  have hdiv:∀ {i j:Nat},i≠j→i % 2=j % 2→i / 2≠j / 2:=by intro i j h1 h2;omega
  cases i with
  |zero =>
   cases j with
   |zero=>exact (hij rfl).elim
   |succ j=>cases t <;> by_cases hj:(j % 2 == 0)=true <;> simp only [Tr.set,hj,if_true,if_false,Bool.false_eq_true]
  |succ i =>
   cases j with
   |zero=>cases t <;> by_cases hi:(i % 2 == 0)=true <;> simp only [Tr.set,hi,if_true,if_false,Bool.false_eq_true]
   |succ j =>
    cases t with
    |nil =>
     by_cases hi:(i % 2 == 0)=true <;> by_cases hj:(j % 2 == 0)=true <;> simp only [Tr.set,hi,hj,if_true,if_false,Bool.false_eq_true]
     ·rw [Tr.set_comm n m .nil (i / 2) (j / 2) a b (hdiv (by omega) (by simp at hi hj;omega)) (by omega) (by omega)]
     ·rw [Tr.set_comm n m .nil (i / 2) (j / 2) a b (hdiv (by omega) (by simp at hi hj;omega)) (by omega) (by omega)]
    |node v l r =>
     by_cases hi:(i % 2 == 0)=true <;> by_cases hj:(j % 2 == 0)=true <;> simp only [Tr.set,hi,hj,if_true,if_false,Bool.false_eq_true]
     ·rw [Tr.set_comm n m l (i / 2) (j / 2) a b (hdiv (by omega) (by simp at hi hj;omega)) (by omega) (by omega)]
     ·rw [Tr.set_comm n m r (i / 2) (j / 2) a b (hdiv (by omega) (by simp at hi hj;omega)) (by omega) (by omega)]
theorem zsr (l:List Blk):∀ (h:Heap) (i:Nat) (b:Blk),i < l.length→((l.foldl Heap.push h).tr.set (h.size+i+1) (h.size+i) b)=((l.set i b).foldl Heap.push h).tr:=by
 have push:∀ (l:List Blk) (h:Heap) (A:Nat) (b:Blk),A < h.size→(l.foldl Heap.push h).tr.set (A+1) A b=(l.foldl Heap.push { h with tr:=h.tr.set (A+1) A b }).tr:=by
  intro l
  induction l with
  |nil=>intro h A b _;rfl
  |cons c l ih =>
   intro h A b hA
   rw [List.foldl_cons,List.foldl_cons,ih (h.push c) A b (by rw [Heap.size_push];omega)]
   congr 2
   simp only [Heap.push,Heap.mk.injEq,true_and,and_true]
   exact Tr.set_comm _ _ _ _ _ _ _ (by omega) (by omega) (by omega)
 induction l with
 |nil=>intro h i b hi;simp at hi
 |cons c l ih =>
  intro h i b hi
  cases i with
  |zero =>
   simp only [Nat.add_zero,List.foldl_cons,List.set_cons_zero]
   rw [push l (h.push c) h.size b (by rw [Heap.size_push];omega)]
   congr 2
   simp only [Heap.push,Heap.mk.injEq,true_and,and_true]
   exact Tr.set_same _ _ _ _ _ _ (by omega) (by omega)
  |succ i =>
   rw [List.foldl_cons,List.set_cons_succ,List.foldl_cons]
   have:=ih (h.push c) i b (by simpa using hi)
   rw [Heap.size_push] at this
   rw [show h.size+(i+1)=h.size+1+i by omega]
   exact this
theorem zbA (h:Heap) (l:List Blk) (w i:Nat) (b:Blk) (hi:i < l.length):(h.lay l w).set (h.size+i) b=h.lay (l.set i b) (min w (h.size+i)):=by
 unfold Heap.lay Heap.set
 simp only [Heap.mk.injEq]
 refine ⟨?_,zsr l h i b hi,trivial⟩
 rw [zfs,zfs,List.length_set]
def zee (b:Option Blk) (i o:Nat) (vs:List Value) (h:Heap) (l:List Blk) (w:Nat):Option Heap:=match b with
 |some (.row cs e false)=>if (decide (o+vs.length≤cs.length) && vs.all one)=true then some (h.lay (l.set i (.row (splice cs o vs) e false)) (min w (h.size+i))) else none
 |_=>none
theorem zaS (cs:List Value) (e:TypeId) (i o:Nat) (vs:List Value) (h:Heap) (l:List Blk) (w:Nat) :
 zee (some (.row cs e false)) i o vs h l w=if (decide (o+vs.length≤cs.length) && vs.all one)=true then some (h.lay (l.set i (.row (splice cs o vs) e false)) (min w (h.size+i))) else none:=rfl
theorem zfR {T:Tab} {t n:Nat} (hs:zau T t=some n) (h:Heap) (l:List Blk) (w i o:Nat) (v:Value) (hi:i < l.length) :
 zaZ T t (.pointer (some ⟨h.size+i,o,none⟩)) v (h.lay l w)=if v.cells.size=n then zee l[i]? i o v.cells.toList h l w else none:=by
 simp only [zaZ,hs,Option.bind_some]
 split
 ·unfold zbQ
  rw [zbd]
  generalize hb:l[i]? = b
  cases b with
  |none=>rfl
  |some b =>
   cases b with
   |row cs e ro =>
    cases ro with
    |true=>rfl
    |false =>
     simp only [zee]
     split
     ·rw [zbA _ _ _ _ _ hi]
     ·rfl
   |_=>rfl
 ·rfl
section
variable {T:Tab} {t e:TypeId} {bytes:Nat} {z:List Value}
end
end Go.Am
