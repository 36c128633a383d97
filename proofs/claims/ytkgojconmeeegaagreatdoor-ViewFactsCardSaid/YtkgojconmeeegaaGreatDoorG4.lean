/- Steps on values without addresses. No condition. -/
import Derived.Test.YtkgojconmeeegaaGreatDoorGSym
import Derived.Laws.Strings
import Derived.ProofKit
import Derived.ChangeSame
set_option linter.unusedSimpArgs false
namespace Go.Am
variable {Z:Type} {a b:Int} {k:IntKind} {x:Operand} {t:TypeId}
section
variable {P:Program} {T:bL} {ov:Ov} {d:Option Tmp} {ty:TypeId} {pos:String} {af:Array Edge} {g:Option (Nat × Bool)} {e:Env} {h:Heap} {K:aG}

theorem Uq (k:Program->Sem Z):gT P (program >>= k)=gT P (k P):=rfl
theorem AE (a:Z):gT P (pure a:Sem Z)=some a:=rfl
theorem U0 {β:Type} (a:Z) (k:Z->Sem β):((pure a:Sem Z) >>= k)=k a:=rfl
theorem Vb {β:Type} (a:Z) (k:Z->β):k <$> (pure a:Sem Z)=pure (k a):=rfl
theorem bg {p:Prop} [Decidable p] (h1:p->K (.bool true) h) (h2:¬ p->K (.bool false) h):rY (decide p) h K :=
 ⟨λhp=>h1 (of_decide_eq_true hp),λhp=>h2 (of_decide_eq_false hp)⟩
theorem lz (h1:a=b->K (.bool true) h) (h2:¬ a=b->K (.bool false) h):rY (a == b) h K :=
 ⟨λhp=>h1 (by simpa using hp),λhp=>h2 (by simpa using hp)⟩
theorem im (h1:¬ a=b->K (.bool true) h) (h2:a=b->K (.bool false) h):rY (a != b) h K :=
 ⟨λhp=>h1 (by simpa using hp),λhp=>h2 (by simpa using hp)⟩
def lW (s:aB) (i:Nat):Int:=((s[i]?).getD 0).toNat
theorem Hx {i:Operand} {s:aB} {j:Int} (hd:P.underlying t=some .string) (hx:bz e x=.string s) (hi:bz e i=.int k j) (h0:0<=j) (h1:j < s.size)
 (hk:K (.int .u8 (lW s j.toNat)) h):dx (ic P e ⟨d,.index t x i,ty,pos,af,g⟩ h) K:=by
 have aP:j.toNat < s.size:=by omega
 have hs:s[j.toNat]? = some s[j.toNat]:=by simp [aP]
 have:ic P e ⟨d,.index t x i,ty,pos,af,g⟩ h=some (.int .u8 (lW s j.toNat),h):=by
  unfold ic
  rw [aE (by simp [Op.operands,hx,hi,plain,mN])]
  have:gT P (execOp (bz e) ⟨d,.index t x i,ty,pos,af,g⟩)=some (.value (.int .u8 (lW s j.toNat))):=by
   simp [execOp,Instr.index,hx,hi,asIntOf,underlying,hd,h0,hs,Uq,AE,U0,Vb,lW]
  rw [this]
  rfl
 rw [this]
 exact hk
theorem bI {b:Bool} (hx:bz e x=.bool b) (hk:K (.bool !b) h):dx (ic P e ⟨d,.unOp .not t x,ty,pos,af,g⟩ h) K:=by
 have:ic P e ⟨d,.unOp .not t x,ty,pos,af,g⟩ h=some (.bool !b,h):=by
  unfold ic
  rw [aE (by simp [Op.operands,hx,plain,mN])]
  have:gT P (execOp (bz e) ⟨d,.unOp .not t x,ty,pos,af,g⟩)=some (.value (.bool !b)):=by
   simp [execOp,hx,Op.unary,Uq,AE,U0,Vb]
  rw [this]
  rfl
 rw [this]
 exact hk
theorem zxJ {y:Operand} {iy:Array TypeId} (hx:bz e x=.int k a) (hy:bz e y=.int k b) (hk:K (.int k (if b < a then b else a)) h):dx (ic P e ⟨d,.call ⟨.builtin .min,#[x,y],iy⟩,ty,pos,af,g⟩ h) K:=by
 have:ic P e ⟨d,.call ⟨.builtin .min,#[x,y],iy⟩,ty,pos,af,g⟩ h=some (.int k (if b < a then b else a),h):=by
  unfold ic
  rw [aE (by simp [Op.operands,Call.operands,hx,hy,plain,mN])]
  have:gT P (execOp (bz e) ⟨d,.call ⟨.builtin .min,#[x,y],iy⟩,ty,pos,af,g⟩)=some (.value (.int k (if b < a then b else a))):=by
   simp [execOp,hx,hy,resolve,invoke,builtin,Builtin.min_,Builtin.min2,Uq,AE,U0,Vb]
  rw [this]
  rfl
 rw [this]
 exact hk
theorem zxF {y:Operand} {iy:Array TypeId} (hx:bz e x=.int k a) (hy:bz e y=.int k b) (hk:K (.int k (if a < b then b else a)) h):dx (ic P e ⟨d,.call ⟨.builtin .max,#[x,y],iy⟩,ty,pos,af,g⟩ h) K:=by
 have:ic P e ⟨d,.call ⟨.builtin .max,#[x,y],iy⟩,ty,pos,af,g⟩ h=some (.int k (if a < b then b else a),h):=by
  unfold ic
  rw [aE (by simp [Op.operands,Call.operands,hx,hy,plain,mN])]
  have:gT P (execOp (bz e) ⟨d,.call ⟨.builtin .max,#[x,y],iy⟩,ty,pos,af,g⟩)=some (.value (.int k (if a < b then b else a))):=by
   simp [execOp,hx,hy,resolve,invoke,builtin,Builtin.max_,Builtin.max2,Uq,AE,U0,Vb]
  rw [this]
  rfl
 rw [this]
 exact hk

theorem HM {op:BinOp} {a b:aB} {v:ae} (hp:plain v=true) (hv:gT P (Op.stringOp op a b)=some v) (hb:sL op (.string a) (.string b)=none):bY P T op t (.string a) (.string b)=some v:=by
 have h1:(T.desc t).bind (λd=>EU d (.string a) (.string b))=none:=by
  cases T.desc t with
  |none=>rfl
  |some d=>cases d <;> rfl
 have h2:gT P (binOp op t (.string a) (.string b))=some v:=by
  rw [<- hv]
  cases op <;> rfl
 unfold bY
 rw [hb]
 simp only [h1,h2]
 rw [aE (show (plain (Value.string a) && plain (Value.string b))=true from rfl)]
 simp only [dX]
 rw [aE hp]
theorem As (a:aB):a.toList=a.data.toList:=ByteArray.toList_eq a
theorem zBZ {a b:aB} (hs:a.size+b.size<=9223372036854775807):bY P T .add t (.string a) (.string b)=some (.string (a++b)):=by
 refine HM rfl ?_ rfl
 unfold Op.stringOp
 simp only
 rw [az (by simp only [IntKind.max,IntKind.signed,IntKind.bits];simp;omega)]
 rfl
theorem zB7 {t:TypeId} {a b:aB}:bY P T .eql t (.string a) (.string b)=some (.bool (decide (a=b))):=by
 refine HM rfl ?_ rfl
 have:(a.toList == b.toList)=decide (a=b):=by
  rw [As,As]
  by_cases h:a=b
  .subst h;simp
  .have h2:a.data≠b.data:=λhh=>h (by cases a;cases b;simp at hh;simp [hh])
   simp [h,h2]
 unfold Op.stringOp
 simp only [this]
 rfl
theorem zB8 {t:TypeId} {a b:aB}:bY P T .neq t (.string a) (.string b)=some (.bool (decide (a≠b))):=by
 refine HM rfl ?_ rfl
 have:(a.toList == b.toList)=decide (a=b):=by
  rw [As,As]
  by_cases h:a=b
  .subst h;simp
  .have h2:a.data≠b.data:=λhh=>h (by cases a;cases b;simp at hh;simp [hh])
   simp [h,h2]
 unfold Op.stringOp
 simp only [this]
 simp [AE]
end
end Go.Am
namespace Go.Am
variable {b:bh} {h:Heap}
structure Holds (h:Heap) (A:Nat) (b:bh):Prop where
 lt:A < h.size
 get:h.get A=some b
theorem Holds.ext {h':Heap} {A:Nat} (hh:Holds h A b) (hx:Ext h h'):Holds h' A b:=⟨eW hh.lt hx.size,(hx.get A hh.lt).trans hh.get⟩
theorem Holds.top {h':Heap} {l:List bh} {w i:Nat} (hx:Ext (h.lay l w) h') (hi:l[i]? = some b):Holds h' (h.size+i) b:=by
 have hl:i < l.length:=(dz.1 hi).1
 refine Holds.ext ⟨by rw [bf];omega,?_⟩ hx
 rw [gH]
 exact hi
theorem Holds.lay {h:Heap} {A:Nat} {b:bh} (hh:Holds h A b) (l:List bh) (w:Nat):(h.lay l w).get A=some b:=(Er h l w hh.lt).trans hh.get
theorem Holds.on {A:Nat} (hh:Holds h A b) (l:List bh) (w:Nat):Holds (h.lay l w) A b:=⟨by rw [bf];have:=hh.lt;omega,hh.lay l w⟩
theorem Ext.up {h1:Heap} (z:Ext h h1) (l:List bh):Ext h (h1.lay l h1.low):=z.trans (zrJ _ _ _ (zN _ _))

section
variable {T:bL} {t e:TypeId} {k bytes:Nat} {z:List ae}
theorem zwt (hd:T.desc t=some (.slice e)) (hi:T.info e=some (k,bytes,z)) (hk:0 < k) {x:ae} {m:Nat} {news:List ae} (hs:fT x k h=some (m,news)) (hm:0 < m) (h1:news.all one=true) (hb:m*bytes<=140737488355328) (hl:m<=1152921504606846976) :
 iP T t (.slice none 0 0) x h=some (.slice (some ⟨h.size,0,none⟩) m (G*k+m),h.push (.row news e false)):=by
 unfold iP
 simp only [hd,hi,hs,dX]
 rw [az (by omega),az,az]
 .have hG:0 < G:=by unfold G;omega
  simp [nQ,hG]
 .have:0 % G=0:=Nat.zero_mod _
  omega
 .simp only [qt,gY,C9,h1,not_or]
  refine ⟨⟨⟨by omega,by simp;omega⟩,by omega⟩,by simp⟩
theorem zzq (hd:T.desc t=some (.slice e)) (hi:T.info e=some (k,bytes,z)) (hk:0 < k) {x:ae} {B n m:Nat} {eT news:List ae} (hg:h.get B=some (.row eT e false)) (ho:eT.length=n*k) (hn:0 < n)
 (hs:fT x k h=some (m,news)) (hm:0 < m) (h1:news.all one=true) (hb:(n+m)*bytes<=140737488355328) (hl:n+m<=1152921504606846976) :
 iP T t (.slice (some ⟨B,0,none⟩) n (G*k+n)) x h=some (.slice (some ⟨h.size,0,none⟩) (n+m) (G*k+(n+m)),(h.set B .dead).push (.row (eT++news) e false)):=by
 obtain ⟨c1,c2,c3⟩:=CN (k:=k) (q:=n) hk (by unfold G;omega)
 have hnk:n*k≠0:=by
  have:=Nat.mul_pos hn hk
  omega
 have nt:cut eT 0 (n*k)=some eT:=by
  unfold cut
  rw [aE (by omega),<- ho]
  simp
 unfold iP
 simp only [hd,hi,hs,dX]
 rw [az (by omega),az,az (by rw [c2];omega)]
 .simp only [nQ,hnk,if_false,gS,hg,nt,dX]
  rw [az (by omega)]
  simp [c3]
 .simp only [qt,gY,C9,h1,not_or]
  exact ⟨⟨⟨by omega,by omega⟩,by omega⟩,by simp⟩
end
theorem Tr.k8:∀ (n m:Nat) (t:Tr) (i:Nat) (a b:bh),i < n->i < m->Tr.set n (Tr.set m t i a) i b=Tr.set n t i b
 |0,_,_,_,_,_,h,_=>by omega
 |_,0,_,_,_,_,_,h=>by omega
 |n+1,m+1,t,i,a,b,hn,hm=>by
  cases i with
  |zero=>cases t <;> rfl
  |succ i =>
   cases t with
   |nil=>by_cases hp:(i % 2 == 0)=true <;> simp only [Tr.set,hp,if_true,if_false,gW] <;> rw [Tr.k8 n m .nil (i / 2) a b (by omega) (by omega)]
   |node v l r =>
    by_cases hp:(i % 2 == 0)=true <;> simp only [Tr.set,hp,if_true,if_false,gW]
    .rw [Tr.k8 n m l (i / 2) a b (by omega) (by omega)]
    .rw [Tr.k8 n m r (i / 2) a b (by omega) (by omega)]
theorem Tr.set_comm:∀ (n m:Nat) (t:Tr) (i j:Nat) (a b:bh),i≠j->i < m->j < n->Tr.set n (Tr.set m t i a) j b=Tr.set m (Tr.set n t j b) i a
 |0,_,_,_,_,_,_,_,_,h=>by omega
 |_,0,_,_,_,_,_,_,h,_=>by omega
 |n+1,m+1,t,i,j,a,b,dF,hm,hn=>by
  have hdiv:∀ {i j:Nat},i≠j->i % 2=j % 2->i / 2≠j / 2:=by intro i j h1 h2;omega
  cases i with
  |zero =>
   cases j with
   |zero=>exact (dF rfl).elim
   |succ j=>cases t <;> by_cases hj:(j % 2 == 0)=true <;> simp only [Tr.set,hj,if_true,if_false,gW]
  |succ i =>
   cases j with
   |zero=>cases t <;> by_cases hi:(i % 2 == 0)=true <;> simp only [Tr.set,hi,if_true,if_false,gW]
   |succ j =>
    cases t with
    |nil =>
     by_cases hi:(i % 2 == 0)=true <;> by_cases hj:(j % 2 == 0)=true <;> simp only [Tr.set,hi,hj,if_true,if_false,gW]
     .rw [Tr.set_comm n m .nil (i / 2) (j / 2) a b (hdiv (by omega) (by simp at hi hj;omega)) (by omega) (by omega)]
     .rw [Tr.set_comm n m .nil (i / 2) (j / 2) a b (hdiv (by omega) (by simp at hi hj;omega)) (by omega) (by omega)]
    |node v l r =>
     by_cases hi:(i % 2 == 0)=true <;> by_cases hj:(j % 2 == 0)=true <;> simp only [Tr.set,hi,hj,if_true,if_false,gW]
     .rw [Tr.set_comm n m l (i / 2) (j / 2) a b (hdiv (by omega) (by simp at hi hj;omega)) (by omega) (by omega)]
     .rw [Tr.set_comm n m r (i / 2) (j / 2) a b (hdiv (by omega) (by simp at hi hj;omega)) (by omega) (by omega)]
theorem zxi (l:List bh):∀ (h:Heap) (i:Nat) (b:bh),i < l.length->((l.foldl Heap.push h).tr.set (h.size+i+1) (h.size+i) b)=((l.set i b).foldl Heap.push h).tr:=by
 have push:∀ (l:List bh) (h:Heap) (A:Nat) (b:bh),A < h.size->(l.foldl Heap.push h).tr.set (A+1) A b=(l.foldl Heap.push { h with tr:=h.tr.set (A+1) A b }).tr:=by
  intro l
  induction l with
  |nil=>intro h A b _;rfl
  |cons c l ih =>
   intro h A b hA
   rw [wu,wu,ih (h.push c) A b (by rw [Heap.size_push];omega)]
   congr 2
   simp only [Heap.push,Heap.mk.injEq,true_and,and_true]
   exact Tr.set_comm _ _ _ _ _ _ _ (by omega) (by omega) (by omega)
 induction l with
 |nil=>intro h i b hi;simp at hi
 |cons c l ih =>
  intro h i b hi
  cases i with
  |zero =>
   simp only [jh,wu,gX]
   rw [push l (h.push c) h.size b (by rw [Heap.size_push];omega)]
   congr 2
   simp only [Heap.push,Heap.mk.injEq,true_and,and_true]
   exact Tr.k8 _ _ _ _ _ _ (by omega) (by omega)
  |succ i =>
   rw [wu,EM,wu]
   have:=ih (h.push c) i b (by simpa using hi)
   rw [Heap.size_push] at this
   rw [show h.size+(i+1)=h.size+1+i by omega]
   exact this
theorem UU (h:Heap) (l:List bh) (w i:Nat) (b:bh) (hi:i < l.length):(h.lay l w).set (h.size+i) b=h.lay (l.set i b) (min w (h.size+i)):=by
 unfold Heap.lay Heap.set
 simp only [Heap.mk.injEq]
 refine ⟨?_,zxi l h i b hi,trivial⟩
 rw [Uj,Uj,nU]
def sN (b:Option bh) (i o:Nat) (vs:List ae) (h:Heap) (l:List bh) (w:Nat):Option Heap:=match b with
 |some (.row cs e false)=>if (decide (o+vs.length<=cs.length) && vs.all one)=true then some (h.lay (l.set i (.row (aF cs o vs) e false)) (min w (h.size+i))) else none
 |_=>none
theorem iR (cs:List ae) (e:TypeId) (i o:Nat) (vs:List ae) (h:Heap) (l:List bh) (w:Nat) :
 sN (some (.row cs e false)) i o vs h l w=if (decide (o+vs.length<=cs.length) && vs.all one)=true then some (h.lay (l.set i (.row (aF cs o vs) e false)) (min w (h.size+i))) else none:=rfl
theorem wi {T:bL} {t n:Nat} (hs:cN T t=some n) (h:Heap) (l:List bh) (w i o:Nat) (v:ae) (hi:i < l.length) :
 iS T t (.pointer (some ⟨h.size+i,o,none⟩)) v (h.lay l w)=if v.cells.size=n then sN l[i]? i o v.cells.toList h l w else none:=by
 simp only [iS,hs,dX]
 split
 .unfold kH
  rw [gH]
  generalize hb:l[i]? = b
  cases b with
  |none=>rfl
  |some b =>
   cases b with
   |row cs e ro =>
    cases ro with
    |true=>rfl
    |false =>
     simp only [sN]
     split
     .rw [UU _ _ _ _ _ hi]
     .rfl
   |_=>rfl
 .rfl
section
variable {T:bL} {t e:TypeId} {bytes:Nat} {z:List ae}
end
end Go.Am
namespace Go.Am

inductive Il where
 |here
 |l (p:Il)
 |r (p:Il)
inductive ET where
 |leaf
 |node (v:ae) (l r:ET)
noncomputable def ET.get (p:Il):ET->ae :=
 Il.rec (motive:=λ_=>ET->ae) (λt=>ET.casesOn t undef λv _ _=>v) (λ_ ih t=>ET.casesOn t undef λ_ l _=>ih l) (λ_ ih t=>ET.casesOn t undef λ_ _ r=>ih r) p
noncomputable def ET.set (p:Il) (v:ae):ET->ET :=
 Il.rec (motive:=λ_=>ET->ET) (λt=>ET.casesOn t (.node v .leaf .leaf) λ_ l r=>.node v l r) (λ_ ih t=>ET.casesOn t (.node undef (ih .leaf) .leaf) λx l r=>.node x (ih l) r)
  (λ_ ih t=>ET.casesOn t (.node undef .leaf (ih .leaf)) λx l r=>.node x l (ih r)) p

structure FE where
 n:Nat
 t:ET

abbrev FK:=ae->Heap->Bool




section
variable (P:Program) (T:bL)


variable (C:Fn->List ae->Heap->FK->Bool)



def Ey (ops:Array Oper) (ms:List Nat):Bool :=
 (List.range ops.size).all λj=>match ops[j]? with
  |some oj=>oj.after.toList.all (λe => !Region.binds .any e || decide (e.on < j)) &&
   (List.range j).all λi=>(ms.getD j 0).testBit i || (match ops[i]? with
    |some oi=>oi.apart ops oj
    |none=>true)
  |none=>true
def nM (ops:Array Oper) (i:Nat):Bool:=match ops[i]? with
 |some o=>rR T o
 |none=>true
def Ke (ops:Array Oper) (ms:List Nat):List (Nat × Nat) :=
 (List.range ops.size).flatMap λj=>(List.range j).filterMap λi=>if (ms.getD j 0).testBit i || nM T ops i || nM T ops j then none else some (i,j)
def AB (ks:List Nat):List (Nat × Nat)->Bool
 | []=>true
 |(i,j)::r=>oM (ks.getD i 2) (ks.getD j 2) && AB ks r


end
end Go.Am
namespace Go.Am





section
variable {P:Program} {T:bL} {ov:Ov}








theorem zjC (ks:List Nat):∀ ps:List (Nat × Nat),AB ks ps=true->∀ i j,(i,j)∈ps->oM (ks.getD i 2) (ks.getD j 2)=true
 | [],_,_,_,h=>by cases h
 |(a,b)::r,h,i,j,hm=>by
  simp only [AB,dP] at h
  rcases dG.1 hm with h1|h1
  .cases h1;exact h.1
  .exact zjC ks r h.2 i j h1
theorem zwX {ops:Array Oper} {ms ks:List Nat} (h1:Ey ops ms=true) (h2:AB ks (Ke T ops ms)=true) (h3:∀ i,i < ops.size->nM T ops i=true->ks.getD i 2=0):HV ops ks ms=true:=by
 unfold HV
 rw [gK]
 intro j hj
 have IH:j < ops.size:=uc.1 hj
 unfold Ey at h1
 have h1:=gK.1 h1 j hj
 unfold JC
 split
 .rename_i oj rA
  rw [rA] at h1
  simp only [dP] at h1 ⊢
  refine ⟨h1.1,?_⟩
  rw [gK]
  intro i hi
  have dF:i < j:=uc.1 hi
  have h4:=gK.1 h1.2 i hi
  cases ht:(ms.getD j 0).testBit i with
  |true=>rfl
  |false =>
   rw [ht] at h4
   simp only [Ih] at h4 ⊢
   split at h4
   .rename_i oi BX
    rw [BX]
    simp only
    rw [dP]
    refine ⟨h4,?_⟩
    cases hbi:nM T ops i with
    |true=>rw [h3 i (by omega) hbi];rfl
    |false =>
     cases hbj:nM T ops j with
     |true=>rw [h3 j IH hbj];simp [oM]
     |false =>
      refine zjC ks _ h2 i j ?_
      unfold Ke
      rw [J1]
      refine ⟨j,hj,?_⟩
      rw [List.mem_filterMap]
      exact ⟨i,hi,by rw [ht,hbi,hbj];rfl⟩
   .rename_i BX;rw [BX]
 .rfl










end
end Go.Am
namespace Go.Am
open Go.ChangeShapes Go.WideShapes Go.ChangeAt Go.RowKit

section
variable {H:Type} {enc:TypeId × ae->H} {P:Program}
theorem zzD {f:Func} {s:ChangeSpec} {apart fresh handsOn again:Bool} {W W':World} {args:Array ae} {v:ae} {ds gs:List (DataW H)} {before pa pv:List MemPlace}
 (hW:DataW.Whole enc P f.params.toList s.vars apart W args.toList ds gs before)
 (i7:∀ (b:Nat) (sp:Nat->Bool) (hd:Bool),DataW.TrodAll enc P W' b sp hd f.resultTypes.toList (v.resultList f.resultTypes.size) (s.fn H (ds++gs)).results [])
 (eM:∀ sp:Nat->Bool,(∀ p∈before,sp p.block=true)->DataW.TrodAll enc P W' 0 sp true f.params.toList args.toList (s.fn H (ds++gs)).args pa)
 (rG:∀ sp:Nat->Bool,(∀ p∈before,sp p.block=true)->DataW.TrodVars enc P W' sp s.vars (s.fn H (ds++gs)).vars pv)
 (oG:before=pa++pv) (hb:Below W.heap.size W W')
 (dU:∀ (j:Nat) (t:TypeId) (r:ae),f.resultTypes[j]? = some t->(v.resultList f.resultTypes.size)[j]? = some r->Value.okWide P W' .any 0 t r) :
 s.post enc P f apart fresh handsOn again W args v W':=by
 have below:∀ p∈before,p.block < W.heap.size:=λp hp=>hW.lt p hp
 have eT:∀ p∈before,(λb=>decide (b < W.heap.size)) p.block=true:=λp hp=>by simpa using below p hp
 have mem:∀ p,p∈before↔p∈([]++pa)++pv:=λp=>by rw [oG];simp
 refine ⟨ds,gs,before,[],pa,pv,hW,i7 _ _ _,eM _ eT,rG _ eT,World.keptBut_mono (λp hp=>⟨hp,?_⟩) (hb.frame (·∈before)),λ_=>?_⟩
 .rw [oG,oV] at hp
  exact .inr hp
 obtain ⟨_,_,_,_,_,hz,hn⟩:=hW
 refine ⟨dU,_,_,([]++pa)++pv,⟨[]++pa,pv,trodAll_append (eM _ (λ_ _=>rfl)) (i7 _ _ _),rG _ (λ_ _=>rfl),rfl,λb off hp=>?_,λha=>?_⟩,?_⟩
 .have aK:=(mem _).2 hp
  rw [hb.frozen (below _ aK)]
  exact hz b off aK
 .have:=hn ha
  rw [oG] at this
  simpa using this
 .exact λp hp _=>(mem p).2 hp
end


end Go.Am
