/- Steps on values without addresses. No condition. -/
import Derived.Test.YtkgojconmeeegaaGreatDoorGSym
import Derived.Laws.Strings
import Derived.ProofKit
import Derived.ChangeSame
set_option linter.unusedSimpArgs false
namespace Go.Am
section
variable {P:Program} {T:bK} {ov:Ov} {d:Option Tmp} {ty:TypeId} {pos:String} {af:Array Edge} {g:Option (Nat × Bool)} {e:Env} {h:Heap} {K:Value→Heap→Prop}

theorem W7 {α:Type} (k:Program→Sem α):iH P (program >>= k)=iH P (k P):=rfl
theorem za {α:Type} (a:α):iH P (pure a:Sem α)=some a:=rfl
theorem Xx {α β:Type} (a:α) (k:α→Sem β):((pure a:Sem α) >>= k)=k a:=rfl
theorem XD {α β:Type} (a:α) (k:α→β):k <$> (pure a:Sem α)=pure (k a):=rfl
theorem bt {p:Prop} [Decidable p] (h1:p→K (.bool true) h) (h2:¬ p→K (.bool false) h):rB (decide p) h K :=
 ⟨fun hp=>h1 (of_decide_eq_true hp),fun hp=>h2 (of_decide_eq_false hp)⟩
theorem nX {a b:Int} (h1:a=b→K (.bool true) h) (h2:¬ a=b→K (.bool false) h):rB (a == b) h K :=
 ⟨fun hp=>h1 (by simpa using hp),fun hp=>h2 (by simpa using hp)⟩
theorem iS {a b:Int} (h1:¬ a=b→K (.bool true) h) (h2:a=b→K (.bool false) h):rB (a != b) h K :=
 ⟨fun hp=>h1 (by simpa using hp),fun hp=>h2 (by simpa using hp)⟩
def lu (s:ByteArray) (i:Nat):Int:=((s[i]?).getD 0).toNat
theorem Hy {t:TypeId} {x i:Operand} {s:ByteArray} {k:IntKind} {j:Int} (hd:P.underlying t=some .string) (hx:bn e x=.string s) (hi:bn e i=.int k j) (h0:0≤j) (h1:j < s.size)
 (hk:K (.int .u8 (lu s j.toNat)) h):cq (gX P e ⟨d,.index t x i,ty,pos,af,g⟩ h) K:=by
 have aR:j.toNat < s.size:=by omega
 have hs:s[j.toNat]? = some s[j.toNat]:=by simp [aR]
 have:gX P e ⟨d,.index t x i,ty,pos,af,g⟩ h=some (.int .u8 (lu s j.toNat),h):=by
  unfold gX
  rw [if_pos (by simp [Op.operands,hx,hi,plain,lZ])]
  have:iH P (execOp (bn e) ⟨d,.index t x i,ty,pos,af,g⟩)=some (.value (.int .u8 (lu s j.toNat))):=by
   simp [execOp,Instr.index,hx,hi,asIntOf,underlying,hd,h0,hs,W7,za,Xx,XD,lu]
  rw [this]
  rfl
 rw [this]
 exact hk
theorem b8 {t:TypeId} {x:Operand} {b:Bool} (hx:bn e x=.bool b) (hk:K (.bool !b) h):cq (gX P e ⟨d,.unOp .not t x,ty,pos,af,g⟩ h) K:=by
 have:gX P e ⟨d,.unOp .not t x,ty,pos,af,g⟩ h=some (.bool !b,h):=by
  unfold gX
  rw [if_pos (by simp [Op.operands,hx,plain,lZ])]
  have:iH P (execOp (bn e) ⟨d,.unOp .not t x,ty,pos,af,g⟩)=some (.value (.bool !b)):=by
   simp [execOp,hx,Op.unary,W7,za,Xx,XD]
  rw [this]
  rfl
 rw [this]
 exact hk
theorem zvA {x y:Operand} {fb:Array TypeId} {k:IntKind} {a b:Int} (hx:bn e x=.int k a) (hy:bn e y=.int k b) (hk:K (.int k (if b < a then b else a)) h):cq (gX P e ⟨d,.call ⟨.builtin .min,#[x,y],fb⟩,ty,pos,af,g⟩ h) K:=by
 have:gX P e ⟨d,.call ⟨.builtin .min,#[x,y],fb⟩,ty,pos,af,g⟩ h=some (.int k (if b < a then b else a),h):=by
  unfold gX
  rw [if_pos (by simp [Op.operands,Call.operands,hx,hy,plain,lZ])]
  have:iH P (execOp (bn e) ⟨d,.call ⟨.builtin .min,#[x,y],fb⟩,ty,pos,af,g⟩)=some (.value (.int k (if b < a then b else a))):=by
   simp [execOp,hx,hy,resolve,invoke,builtin,Builtin.min_,Builtin.min2,W7,za,Xx,XD]
  rw [this]
  rfl
 rw [this]
 exact hk
theorem zvw {x y:Operand} {fb:Array TypeId} {k:IntKind} {a b:Int} (hx:bn e x=.int k a) (hy:bn e y=.int k b) (hk:K (.int k (if a < b then b else a)) h):cq (gX P e ⟨d,.call ⟨.builtin .max,#[x,y],fb⟩,ty,pos,af,g⟩ h) K:=by
 have:gX P e ⟨d,.call ⟨.builtin .max,#[x,y],fb⟩,ty,pos,af,g⟩ h=some (.int k (if a < b then b else a),h):=by
  unfold gX
  rw [if_pos (by simp [Op.operands,Call.operands,hx,hy,plain,lZ])]
  have:iH P (execOp (bn e) ⟨d,.call ⟨.builtin .max,#[x,y],fb⟩,ty,pos,af,g⟩)=some (.value (.int k (if a < b then b else a))):=by
   simp [execOp,hx,hy,resolve,invoke,builtin,Builtin.max_,Builtin.max2,W7,za,Xx,XD]
  rw [this]
  rfl
 rw [this]
 exact hk

theorem RZ {op:BinOp} {t:TypeId} {a b:ByteArray} {v:Value} (hp:plain v=true) (hv:iH P (Op.stringOp op a b)=some v) (hb:rp op (.string a) (.string b)=none):cw P T op t (.string a) (.string b)=some v:=by
 have h1:(T.desc t).bind (fun d=>EO d (.string a) (.string b))=none:=by
  cases T.desc t with
  |none=>rfl
  |some d=>cases d <;> rfl
 have h2:iH P (binOp op t (.string a) (.string b))=some v:=by
  rw [← hv]
  cases op <;> rfl
 unfold cw
 rw [hb]
 simp only [h1,h2]
 rw [if_pos (show (plain (Value.string a) && plain (Value.string b))=true from rfl)]
 simp only [Option.bind_some]
 rw [if_pos hp]
theorem JL (a:ByteArray):a.toList=a.data.toList:=ByteArray.toList_eq a
theorem zFc {t:TypeId} {a b:ByteArray} (hs:a.size+b.size≤9223372036854775807):cw P T .add t (.string a) (.string b)=some (.string (a++b)):=by
 refine RZ rfl ?_ rfl
 unfold Op.stringOp
 simp only
 rw [if_neg (by simp only [IntKind.max,IntKind.signed,IntKind.bits];simp;omega)]
 rfl
theorem zFk {t:TypeId} {a b:ByteArray}:cw P T .eql t (.string a) (.string b)=some (.bool (decide (a=b))):=by
 refine RZ rfl ?_ rfl
 have:(a.toList == b.toList)=decide (a=b):=by
  rw [JL,JL]
  by_cases h:a=b
  ·subst h;simp
  ·have h2:a.data≠b.data:=fun hh=>h (by cases a;cases b;simp at hh;simp [hh])
   simp [h,h2]
 unfold Op.stringOp
 simp only [this]
 rfl
theorem zFl {t:TypeId} {a b:ByteArray}:cw P T .neq t (.string a) (.string b)=some (.bool (decide (a≠b))):=by
 refine RZ rfl ?_ rfl
 have:(a.toList == b.toList)=decide (a=b):=by
  rw [JL,JL]
  by_cases h:a=b
  ·subst h;simp
  ·have h2:a.data≠b.data:=fun hh=>h (by cases a;cases b;simp at hh;simp [hh])
   simp [h,h2]
 unfold Op.stringOp
 simp only [this]
 simp [za]
end
end Go.Am
namespace Go.Am
structure Holds (h:Heap) (A:Nat) (b:bh):Prop where
 lt:A < h.size
 get:h.get A=some b
theorem Holds.ext {h h':Heap} {A:Nat} {b:bh} (hh:Holds h A b) (hx:Ext h h'):Holds h' A b:=⟨Nat.lt_of_lt_of_le hh.lt hx.size,(hx.get A hh.lt).trans hh.get⟩
theorem Holds.top {h h':Heap} {l:List bh} {w i:Nat} {b:bh} (hx:Ext (h.lay l w) h') (hi:l[i]? = some b):Holds h' (h.size+i) b:=by
 have hl:i < l.length:=(List.getElem?_eq_some_iff.1 hi).1
 refine Holds.ext ⟨by rw [bm];omega,?_⟩ hx
 rw [iR]
 exact hi
theorem Holds.lay {h:Heap} {A:Nat} {b:bh} (hh:Holds h A b) (l:List bh) (w:Nat):(h.lay l w).get A=some b:=(Ek h l w hh.lt).trans hh.get
theorem Holds.on {h:Heap} {A:Nat} {b:bh} (hh:Holds h A b) (l:List bh) (w:Nat):Holds (h.lay l w) A b:=⟨by rw [bm];have:=hh.lt;omega,hh.lay l w⟩
theorem Ext.up {h h1:Heap} (z:Ext h h1) (l:List bh):Ext h (h1.lay l h1.low):=z.trans (UU _ _ _ (Nat.min_le_left _ _))

/-! ### Appending -/
section
variable {T:bK} {t e:TypeId} {k bytes:Nat} {z:List Value}
theorem zuo (hd:T.desc t=some (.slice e)) (hi:T.info e=some (k,bytes,z)) (hk:0 < k) {x:Value} {m:Nat} {news:List Value} {h:Heap} (hs:fO x k h=some (m,news)) (hm:0 < m) (h1:news.all one=true) (hb:m*bytes≤140737488355328) (hl:m≤1152921504606846976) :
 hZ T t (.slice none 0 0) x h=some (.slice (some ⟨h.size,0,none⟩) m (G*k+m),h.push (.row news e false)):=by
 unfold hZ
 simp only [hd,hi,hs,Option.bind_some]
 rw [if_neg (by omega),if_neg,if_neg]
 ·have hG:0 < G:=by unfold G;omega
  simp [nc,hG]
 ·have:0 % G=0:=Nat.zero_mod _
  omega
 ·simp only [Bool.or_eq_true,decide_eq_true_eq,Bool.not_eq_true',h1,not_or]
  refine ⟨⟨⟨by omega,by simp;omega⟩,by omega⟩,by simp⟩
theorem zyC (hd:T.desc t=some (.slice e)) (hi:T.info e=some (k,bytes,z)) (hk:0 < k) {x:Value} {B n m:Nat} {eJ news:List Value} {h:Heap} (hg:h.get B=some (.row eJ e false)) (ho:eJ.length=n*k) (hn:0 < n)
 (hs:fO x k h=some (m,news)) (hm:0 < m) (h1:news.all one=true) (hb:(n+m)*bytes≤140737488355328) (hl:n+m≤1152921504606846976) :
 hZ T t (.slice (some ⟨B,0,none⟩) n (G*k+n)) x h=some (.slice (some ⟨h.size,0,none⟩) (n+m) (G*k+(n+m)),(h.set B .dead).push (.row (eJ++news) e false)):=by
 obtain ⟨c1,c2,c3⟩:=CL (k:=k) (q:=n) hk (by unfold G;omega)
 have hnk:n*k≠0:=by
  have:=Nat.mul_pos hn hk
  omega
 have mJ:cut eJ 0 (n*k)=some eJ:=by
  unfold cut
  rw [if_pos (by omega),← ho]
  simp
 unfold hZ
 simp only [hd,hi,hs,Option.bind_some]
 rw [if_neg (by omega),if_neg,if_neg (by rw [c2];omega)]
 ·simp only [nc,hnk,if_false,gQ,hg,mJ,Option.bind_some]
  rw [if_neg (by omega)]
  simp [c3]
 ·simp only [Bool.or_eq_true,decide_eq_true_eq,Bool.not_eq_true',h1,not_or]
  exact ⟨⟨⟨by omega,by omega⟩,by omega⟩,by simp⟩
end
/-! ### Writing into what was laid -/
theorem Tr.kK:∀ (n m:Nat) (t:Tr) (i:Nat) (a b:bh),i < n→i < m→Tr.set n (Tr.set m t i a) i b=Tr.set n t i b
 |0,_,_,_,_,_,h,_=>by omega
 |_,0,_,_,_,_,_,h=>by omega
 |n+1,m+1,t,i,a,b,hn,hm=>by
  cases i with
  |zero=>cases t <;> rfl
  |succ i =>
   cases t with
   |nil=>by_cases hp:(i % 2 == 0)=true <;> simp only [Tr.set,hp,if_true,if_false,Bool.false_eq_true] <;> rw [Tr.kK n m .nil (i / 2) a b (by omega) (by omega)]
   |node v l r =>
    by_cases hp:(i % 2 == 0)=true <;> simp only [Tr.set,hp,if_true,if_false,Bool.false_eq_true]
    ·rw [Tr.kK n m l (i / 2) a b (by omega) (by omega)]
    ·rw [Tr.kK n m r (i / 2) a b (by omega) (by omega)]
theorem Tr.set_comm:∀ (n m:Nat) (t:Tr) (i j:Nat) (a b:bh),i≠j→i < m→j < n→Tr.set n (Tr.set m t i a) j b=Tr.set m (Tr.set n t j b) i a
 |0,_,_,_,_,_,_,_,_,h=>by omega
 |_,0,_,_,_,_,_,_,h,_=>by omega
 |n+1,m+1,t,i,j,a,b,di,hm,hn=>by
  have hdiv:∀ {i j:Nat},i≠j→i % 2=j % 2→i / 2≠j / 2:=by intro i j h1 h2;omega
  cases i with
  |zero =>
   cases j with
   |zero=>exact (di rfl).elim
   |succ j=>cases t <;> by_cases hj:(j % 2 == 0)=true <;> simp only [Tr.set,hj,if_true,if_false,Bool.false_eq_true]
  |succ i =>
   cases j with
   |zero=>cases t <;> by_cases hi:(i % 2 == 0)=true <;> simp only [Tr.set,hi,if_true,if_false,Bool.false_eq_true]
   |succ j =>
    cases t with
    |nil =>
     by_cases hi:(i % 2 == 0)=true <;> by_cases hj:(j % 2 == 0)=true <;> simp only [Tr.set,hi,hj,if_true,if_false,Bool.false_eq_true]
     ·rw [Tr.set_comm n m .nil (i / 2) (j / 2) a b (hdiv (by omega) (by simp at hi hj;omega)) (by omega) (by omega)]
     ·rw [Tr.set_comm n m .nil (i / 2) (j / 2) a b (hdiv (by omega) (by simp at hi hj;omega)) (by omega) (by omega)]
    |node v l r =>
     by_cases hi:(i % 2 == 0)=true <;> by_cases hj:(j % 2 == 0)=true <;> simp only [Tr.set,hi,hj,if_true,if_false,Bool.false_eq_true]
     ·rw [Tr.set_comm n m l (i / 2) (j / 2) a b (hdiv (by omega) (by simp at hi hj;omega)) (by omega) (by omega)]
     ·rw [Tr.set_comm n m r (i / 2) (j / 2) a b (hdiv (by omega) (by simp at hi hj;omega)) (by omega) (by omega)]
theorem zve (l:List bh):∀ (h:Heap) (i:Nat) (b:bh),i < l.length→((l.foldl Heap.push h).tr.set (h.size+i+1) (h.size+i) b)=((l.set i b).foldl Heap.push h).tr:=by
 have push:∀ (l:List bh) (h:Heap) (A:Nat) (b:bh),A < h.size→(l.foldl Heap.push h).tr.set (A+1) A b=(l.foldl Heap.push { h with tr:=h.tr.set (A+1) A b }).tr:=by
  intro l
  induction l with
  |nil=>intro h A b _;rfl
  |cons c l ih =>
   intro h A b hA
   rw [List.foldl_cons,List.foldl_cons,ih (h.push c) A b (by rw [Heap.size_push];omega)]
   congr 2
   simp only [Heap.push,Heap.mk.injEq,true_and,and_true]
   exact Tr.set_comm _ _ _ _ _ _ _ (by omega) (by omega) (by omega)
 induction l with
 |nil=>intro h i b hi;simp at hi
 |cons c l ih =>
  intro h i b hi
  cases i with
  |zero =>
   simp only [Nat.add_zero,List.foldl_cons,List.set_cons_zero]
   rw [push l (h.push c) h.size b (by rw [Heap.size_push];omega)]
   congr 2
   simp only [Heap.push,Heap.mk.injEq,true_and,and_true]
   exact Tr.kK _ _ _ _ _ _ (by omega) (by omega)
  |succ i =>
   rw [List.foldl_cons,List.set_cons_succ,List.foldl_cons]
   have:=ih (h.push c) i b (by simpa using hi)
   rw [Heap.size_push] at this
   rw [show h.size+(i+1)=h.size+1+i by omega]
   exact this
theorem nT (h:Heap) (l:List bh) (w i:Nat) (b:bh) (hi:i < l.length):(h.lay l w).set (h.size+i) b=h.lay (l.set i b) (min w (h.size+i)):=by
 unfold Heap.lay Heap.set
 simp only [Heap.mk.injEq]
 refine ⟨?_,zve l h i b hi,trivial⟩
 rw [W0,W0,List.length_set]
def rz (b:Option bh) (i o:Nat) (vs:List Value) (h:Heap) (l:List bh) (w:Nat):Option Heap:=match b with
 |some (.row cs e false)=>if (decide (o+vs.length≤cs.length) && vs.all one)=true then some (h.lay (l.set i (.row (az cs o vs) e false)) (min w (h.size+i))) else none
 |_=>none
theorem pA (cs:List Value) (e:TypeId) (i o:Nat) (vs:List Value) (h:Heap) (l:List bh) (w:Nat) :
 rz (some (.row cs e false)) i o vs h l w=if (decide (o+vs.length≤cs.length) && vs.all one)=true then some (h.lay (l.set i (.row (az cs o vs) e false)) (min w (h.size+i))) else none:=rfl
theorem uO {T:bK} {t n:Nat} (hs:bJ T t=some n) (h:Heap) (l:List bh) (w i o:Nat) (v:Value) (hi:i < l.length) :
 ic T t (.pointer (some ⟨h.size+i,o,none⟩)) v (h.lay l w)=if v.cells.size=n then rz l[i]? i o v.cells.toList h l w else none:=by
 simp only [ic,hs,Option.bind_some]
 split
 ·unfold kj
  rw [iR]
  generalize hb:l[i]? = b
  cases b with
  |none=>rfl
  |some b =>
   cases b with
   |row cs e ro =>
    cases ro with
    |true=>rfl
    |false =>
     simp only [rz]
     split
     ·rw [nT _ _ _ _ _ hi]
     ·rfl
   |_=>rfl
 ·rfl
section
variable {T:bK} {t e:TypeId} {bytes:Nat} {z:List Value}
end
end Go.Am
namespace Go.Am

/-! ### The places of a frame -/
inductive oG where
 |here
 |l (p:oG)
 |r (p:oG)
inductive ET where
 |leaf
 |node (v:Value) (l r:ET)
noncomputable def ET.get (p:oG):ET→Value :=
 oG.rec (motive:=fun _=>ET→Value) (fun t=>ET.casesOn t undef fun v _ _=>v) (fun _ ih t=>ET.casesOn t undef fun _ l _=>ih l) (fun _ ih t=>ET.casesOn t undef fun _ _ r=>ih r) p
noncomputable def ET.set (p:oG) (v:Value):ET→ET :=
 oG.rec (motive:=fun _=>ET→ET) (fun t=>ET.casesOn t (.node v .leaf .leaf) fun _ l r=>.node v l r) (fun _ ih t=>ET.casesOn t (.node undef (ih .leaf) .leaf) fun x l r=>.node x (ih l) r)
  (fun _ ih t=>ET.casesOn t (.node undef .leaf (ih .leaf)) fun x l r=>.node x l (ih r)) p

structure FE where
 n:Nat
 t:ET

abbrev FK:=Value→Heap→Bool


/-! ### The operations -/


section
variable (P:Program) (T:bK)


variable (C:Fn→List Value→Heap→FK→Bool)


/-! ### Regions -/

def CG (ops:Array Oper) (ms:List Nat):Bool :=
 (List.range ops.size).all fun j=>match ops[j]? with
  |some oj=>oj.after.toList.all (fun e => !Region.binds .any e || decide (e.on < j)) &&
   (List.range j).all fun i=>(ms.getD j 0).testBit i || (match ops[i]? with
    |some oi=>oi.apart ops oj
    |none=>true)
  |none=>true
def qR (ops:Array Oper) (i:Nat):Bool:=match ops[i]? with
 |some o=>oA T o
 |none=>true

/-! ### Code -/

end
/-! ### A function that defers one call -/
end Go.Am
namespace Go.Am

/-! ### The places of a frame -/




section
variable {P:Program} {T:bK} {ov:Ov}








/-! ### A region that draws its order -/



/-! ### Code -/







end
end Go.Am
namespace Go.Am
open Go.ChangeShapes Go.WideShapes Go.ChangeAt Go.RowKit

section
variable {H:Type} {enc:TypeId × Value→H} {P:Program}
theorem zyN {f:Func} {s:ChangeSpec} {apart fresh handsOn again:Bool} {W W':World} {args:Array Value} {v:Value} {ds gs:List (DataW H)} {before pa pv:List MemPlace}
 (hW:DataW.Whole enc P f.params.toList s.vars apart W args.toList ds gs before)
 (iM:∀ (b:Nat) (sp:Nat→Bool) (hd:Bool),DataW.TrodAll enc P W' b sp hd f.resultTypes.toList (v.resultList f.resultTypes.size) (s.fn H (ds++gs)).results [])
 (eu:∀ sp:Nat→Bool,(∀ p∈before,sp p.block=true)→DataW.TrodAll enc P W' 0 sp true f.params.toList args.toList (s.fn H (ds++gs)).args pa)
 (qB:∀ sp:Nat→Bool,(∀ p∈before,sp p.block=true)→DataW.TrodVars enc P W' sp s.vars (s.fn H (ds++gs)).vars pv)
 (nj:before=pa++pv) (hb:Below W.heap.size W W')
 (dy:∀ (j:Nat) (t:TypeId) (r:Value),f.resultTypes[j]? = some t→(v.resultList f.resultTypes.size)[j]? = some r→Value.okWide P W' .any 0 t r) :
 s.post enc P f apart fresh handsOn again W args v W':=by
 have below:∀ p∈before,p.block < W.heap.size:=fun p hp=>hW.lt p hp
 have eJ:∀ p∈before,(fun b=>decide (b < W.heap.size)) p.block=true:=fun p hp=>by simpa using below p hp
 have mem:∀ p,p∈before↔p∈([]++pa)++pv:=fun p=>by rw [nj];simp
 refine ⟨ds,gs,before,[],pa,pv,hW,iM _ _ _,eu _ eJ,qB _ eJ,World.keptBut_mono (fun p hp=>⟨hp,?_⟩) (hb.frame (·∈before)),fun _=>?_⟩
 ·rw [nj,List.mem_append] at hp
  exact .inr hp
 obtain ⟨_,_,_,_,_,hz,hn⟩:=hW
 refine ⟨dy,_,_,([]++pa)++pv,⟨[]++pa,pv,trodAll_append (eu _ (fun _ _=>rfl)) (iM _ _ _),qB _ (fun _ _=>rfl),rfl,fun b off hp=>?_,fun ha=>?_⟩,?_⟩
 ·have aL:=(mem _).2 hp
  rw [hb.frozen (below _ aL)]
  exact hz b off aL
 ·have:=hn ha
  rw [nj] at this
  simpa using this
 ·exact fun p hp _=>(mem p).2 hp
end


end Go.Am
