/- Steps on values without addresses. No condition. -/
import Derived.Test.YtiapegieocgmfaaGreatDoorGSym
import Derived.Laws.Strings
import Derived.ProofKit
import Derived.ChangeSame
set_option linter.unusedSimpArgs false
namespace Go.Am
variable {Z:Type} {a b:Int} {k:IntKind} {x:Operand} {t:TypeId}
section
variable {P:Program} {T:bI} {ov:Ov} {d:Option Tmp} {ty:TypeId} {pos:String} {af:Array Edge} {g:Option (Nat × Bool)} {e:Env} {h:Heap} {K:aF}

theorem Tg (k:Program->Sem Z):jh P (program >>= k)=jh P (k P):=rfl
theorem AE (a:Z):jh P (pure a:Sem Z)=some a:=rfl
theorem TN {β:Type} (a:Z) (k:Z->Sem β):((pure a:Sem Z) >>= k)=k a:=rfl
theorem T4 {β:Type} (a:Z) (k:Z->β):k <$> (pure a:Sem Z)=pure (k a):=rfl
theorem bn {p:Prop} [Decidable p] (h1:p->K (.bool true) h) (h2:¬ p->K (.bool false) h):sy (decide p) h K :=
 ⟨λhp=>h1 (of_decide_eq_true hp),λhp=>h2 (of_decide_eq_false hp)⟩
theorem lK (h1:a=b->K (.bool true) h) (h2:¬ a=b->K (.bool false) h):sy (a == b) h K :=
 ⟨λhp=>h1 (by simpa using hp),λhp=>h2 (by simpa using hp)⟩
theorem gg (h1:¬ a=b->K (.bool true) h) (h2:a=b->K (.bool false) h):sy (a != b) h K :=
 ⟨λhp=>h1 (by simpa using hp),λhp=>h2 (by simpa using hp)⟩
def mf (s:au) (i:Nat):Int:=((s[i]?).getD 0).toNat
theorem Hs {i:Operand} {s:au} {j:Int} (hd:P.underlying t=some .string) (hx:bt e x=.string s) (hi:bt e i=.int k j) (h0:0<=j) (h1:j < s.size)
 (hk:K (.int .u8 (mf s j.toNat)) h):dD (i7 P e ⟨d,.index t x i,ty,pos,af,g⟩ h) K:=by
 have aT:j.toNat < s.size:=by omega
 have hs:s[j.toNat]? = some s[j.toNat]:=by simp [aT]
 have:i7 P e ⟨d,.index t x i,ty,pos,af,g⟩ h=some (.int .u8 (mf s j.toNat),h):=by
  unfold i7
  rw [aE (by simp [Op.operands,hx,hi,plain,mO])]
  have:jh P (execOp (bt e) ⟨d,.index t x i,ty,pos,af,g⟩)=some (.value (.int .u8 (mf s j.toNat))):=by
   simp [execOp,Instr.index,hx,hi,asIntOf,underlying,hd,h0,hs,Tg,AE,TN,T4,mf]
  rw [this]
  rfl
 rw [this]
 exact hk
theorem bX {b:Bool} (hx:bt e x=.bool b) (hk:K (.bool !b) h):dD (i7 P e ⟨d,.unOp .not t x,ty,pos,af,g⟩ h) K:=by
 have:i7 P e ⟨d,.unOp .not t x,ty,pos,af,g⟩ h=some (.bool !b,h):=by
  unfold i7
  rw [aE (by simp [Op.operands,hx,plain,mO])]
  have:jh P (execOp (bt e) ⟨d,.unOp .not t x,ty,pos,af,g⟩)=some (.value (.bool !b)):=by
   simp [execOp,hx,Op.unary,Tg,AE,TN,T4]
  rw [this]
  rfl
 rw [this]
 exact hk
theorem zww {y:Operand} {ats:Array TypeId} (hx:bt e x=.int k a) (hy:bt e y=.int k b) (hk:K (.int k (if b < a then b else a)) h):dD (i7 P e ⟨d,.call ⟨.builtin .min,#[x,y],ats⟩,ty,pos,af,g⟩ h) K:=by
 have:i7 P e ⟨d,.call ⟨.builtin .min,#[x,y],ats⟩,ty,pos,af,g⟩ h=some (.int k (if b < a then b else a),h):=by
  unfold i7
  rw [aE (by simp [Op.operands,Call.operands,hx,hy,plain,mO])]
  have:jh P (execOp (bt e) ⟨d,.call ⟨.builtin .min,#[x,y],ats⟩,ty,pos,af,g⟩)=some (.value (.int k (if b < a then b else a))):=by
   simp [execOp,hx,hy,resolve,invoke,builtin,Builtin.min_,Builtin.min2,Tg,AE,TN,T4]
  rw [this]
  rfl
 rw [this]
 exact hk
theorem zwt {y:Operand} {ats:Array TypeId} (hx:bt e x=.int k a) (hy:bt e y=.int k b) (hk:K (.int k (if a < b then b else a)) h):dD (i7 P e ⟨d,.call ⟨.builtin .max,#[x,y],ats⟩,ty,pos,af,g⟩ h) K:=by
 have:i7 P e ⟨d,.call ⟨.builtin .max,#[x,y],ats⟩,ty,pos,af,g⟩ h=some (.int k (if a < b then b else a),h):=by
  unfold i7
  rw [aE (by simp [Op.operands,Call.operands,hx,hy,plain,mO])]
  have:jh P (execOp (bt e) ⟨d,.call ⟨.builtin .max,#[x,y],ats⟩,ty,pos,af,g⟩)=some (.value (.int k (if a < b then b else a))):=by
   simp [execOp,hx,hy,resolve,invoke,builtin,Builtin.max_,Builtin.max2,Tg,AE,TN,T4]
  rw [this]
  rfl
 rw [this]
 exact hk

theorem QB {op:BinOp} {a b:au} {v:ab} (hp:plain v=true) (hv:jh P (Op.stringOp op a b)=some v) (hb:sk op (.string a) (.string b)=none):cz P T op t (.string a) (.string b)=some v:=by
 have h1:(T.desc t).bind (λd=>EB d (.string a) (.string b))=none:=by
  cases T.desc t with
  |none=>rfl
  |some d=>cases d <;> rfl
 have h2:jh P (binOp op t (.string a) (.string b))=some v:=by
  rw [<- hv]
  cases op <;> rfl
 unfold cz
 rw [hb]
 simp only [h1,h2]
 rw [aE (show (plain (Value.string a) && plain (Value.string b))=true from rfl)]
 simp only [dM]
 rw [aE hp]
theorem IZ (a:au):a.toList=a.data.toList:=ByteArray.toList_eq a
theorem zAx {a b:au} (hs:a.size+b.size<=9223372036854775807):cz P T .add t (.string a) (.string b)=some (.string (a++b)):=by
 refine QB rfl ?_ rfl
 unfold Op.stringOp
 simp only
 rw [az (by simp only [IntKind.max,IntKind.signed,IntKind.bits];simp;omega)]
 rfl
theorem zAF {t:TypeId} {a b:au}:cz P T .eql t (.string a) (.string b)=some (.bool (decide (a=b))):=by
 refine QB rfl ?_ rfl
 have:(a.toList == b.toList)=decide (a=b):=by
  rw [IZ,IZ]
  by_cases h:a=b
  .subst h;simp
  .have h2:a.data≠b.data:=λhh=>h (by cases a;cases b;simp at hh;simp [hh])
   simp [h,h2]
 unfold Op.stringOp
 simp only [this]
 rfl
theorem zAG {t:TypeId} {a b:au}:cz P T .neq t (.string a) (.string b)=some (.bool (decide (a≠b))):=by
 refine QB rfl ?_ rfl
 have:(a.toList == b.toList)=decide (a=b):=by
  rw [IZ,IZ]
  by_cases h:a=b
  .subst h;simp
  .have h2:a.data≠b.data:=λhh=>h (by cases a;cases b;simp at hh;simp [hh])
   simp [h,h2]
 unfold Op.stringOp
 simp only [this]
 simp [AE]
end
end Go.Am
namespace Go.Am
variable {b:ba} {h:Heap}
structure Holds (h:Heap) (A:Nat) (b:ba):Prop where
 lt:A < h.size
 get:h.get A=some b
theorem Holds.ext {h':Heap} {A:Nat} (hh:Holds h A b) (hx:Ext h h'):Holds h' A b:=⟨dB hh.lt hx.size,(hx.get A hh.lt).trans hh.get⟩
theorem Holds.top {h':Heap} {l:List ba} {w i:Nat} (hx:Ext (h.lay l w) h') (hi:l[i]? = some b):Holds h' (h.size+i) b:=by
 have hl:i < l.length:=(dP.1 hi).1
 refine Holds.ext ⟨by rw [bc];omega,?_⟩ hx
 rw [iB]
 exact hi
theorem Holds.lay {h:Heap} {A:Nat} {b:ba} (hh:Holds h A b) (l:List ba) (w:Nat):(h.lay l w).get A=some b:=(uz h l w hh.lt).trans hh.get
theorem Holds.on {A:Nat} (hh:Holds h A b) (l:List ba) (w:Nat):Holds (h.lay l w) A b:=⟨by rw [bc];have:=hh.lt;omega,hh.lay l w⟩
theorem Ext.over {h1 h2:Heap} {l:List ba} (z:Ext h h1) (x:Ext (h1.lay l h1.low) h2):Ext h h2:=(z.trans (TT _ _ _ (xA _ _))).trans x
theorem Ext.up {h1:Heap} (z:Ext h h1) (l:List ba):Ext h (h1.lay l h1.low):=z.trans (TT _ _ _ (xA _ _))

section
variable {T:bI} {t e:TypeId} {k bytes:Nat} {z:List ab}
theorem zvs (hd:T.desc t=some (.slice e)) (hi:T.info e=some (k,bytes,z)) (hk:0 < k) {x:ab} {m:Nat} {news:List ab} (hs:fw x k h=some (m,news)) (hm:0 < m) (h1:news.all one=true) (hb:m*bytes<=140737488355328) (hl:m<=1152921504606846976) :
 gC T t (.slice none 0 0) x h=some (.slice (some ⟨h.size,0,none⟩) m (G*k+m),h.push (.row news e false)):=by
 unfold gC
 simp only [hd,hi,hs,dM]
 rw [az (by omega),az,az]
 .have hG:0 < G:=by unfold G;omega
  simp [mg,hG]
 .have:0 % G=0:=Nat.zero_mod _
  omega
 .simp only [sB,jH,CO,h1,not_or]
  refine ⟨⟨⟨by omega,by simp;omega⟩,by omega⟩,by simp⟩
theorem zya (hd:T.desc t=some (.slice e)) (hi:T.info e=some (k,bytes,z)) (hk:0 < k) {x:ab} {B n m:Nat} {eO news:List ab} (hg:h.get B=some (.row eO e false)) (ho:eO.length=n*k) (hn:0 < n)
 (hs:fw x k h=some (m,news)) (hm:0 < m) (h1:news.all one=true) (hb:(n+m)*bytes<=140737488355328) (hl:n+m<=1152921504606846976) :
 gC T t (.slice (some ⟨B,0,none⟩) n (G*k+n)) x h=some (.slice (some ⟨h.size,0,none⟩) (n+m) (G*k+(n+m)),(h.set B .dead).push (.row (eO++news) e false)):=by
 obtain ⟨c1,c2,c3⟩:=Ct (k:=k) (q:=n) hk (by unfold G;omega)
 have hnk:n*k≠0:=by
  have:=Nat.mul_pos hn hk
  omega
 have nD:cut eO 0 (n*k)=some eO:=by
  unfold cut
  rw [aE (by omega),<- ho]
  simp
 unfold gC
 simp only [hd,hi,hs,dM]
 rw [az (by omega),az,az (by rw [c2];omega)]
 .simp only [mg,hnk,if_false,gD,hg,nD,dM]
  rw [az (by omega)]
  simp [c3]
 .simp only [sB,jH,CO,h1,not_or]
  exact ⟨⟨⟨by omega,by omega⟩,by omega⟩,by simp⟩
end
theorem Tr.lu:∀ (n m:Nat) (t:Tr) (i:Nat) (a b:ba),i < n->i < m->Tr.set n (Tr.set m t i a) i b=Tr.set n t i b
 |0,_,_,_,_,_,h,_=>by omega
 |_,0,_,_,_,_,_,h=>by omega
 |n+1,m+1,t,i,a,b,hn,hm=>by
  cases i with
  |zero=>cases t <;> rfl
  |succ i =>
   cases t with
   |nil=>by_cases hp:(i % 2 == 0)=true <;> simp only [Tr.set,hp,if_true,if_false,gM] <;> rw [Tr.lu n m .nil (i / 2) a b (by omega) (by omega)]
   |node v l r =>
    by_cases hp:(i % 2 == 0)=true <;> simp only [Tr.set,hp,if_true,if_false,gM]
    .rw [Tr.lu n m l (i / 2) a b (by omega) (by omega)]
    .rw [Tr.lu n m r (i / 2) a b (by omega) (by omega)]
theorem Tr.set_comm:∀ (n m:Nat) (t:Tr) (i j:Nat) (a b:ba),i≠j->i < m->j < n->Tr.set n (Tr.set m t i a) j b=Tr.set m (Tr.set n t j b) i a
 |0,_,_,_,_,_,_,_,_,h=>by omega
 |_,0,_,_,_,_,_,_,h,_=>by omega
 |n+1,m+1,t,i,j,a,b,dK,hm,hn=>by
  have hdiv:∀ {i j:Nat},i≠j->i % 2=j % 2->i / 2≠j / 2:=by intro i j h1 h2;omega
  cases i with
  |zero =>
   cases j with
   |zero=>exact (dK rfl).elim
   |succ j=>cases t <;> by_cases hj:(j % 2 == 0)=true <;> simp only [Tr.set,hj,if_true,if_false,gM]
  |succ i =>
   cases j with
   |zero=>cases t <;> by_cases hi:(i % 2 == 0)=true <;> simp only [Tr.set,hi,if_true,if_false,gM]
   |succ j =>
    cases t with
    |nil =>
     by_cases hi:(i % 2 == 0)=true <;> by_cases hj:(j % 2 == 0)=true <;> simp only [Tr.set,hi,hj,if_true,if_false,gM]
     .rw [Tr.set_comm n m .nil (i / 2) (j / 2) a b (hdiv (by omega) (by simp at hi hj;omega)) (by omega) (by omega)]
     .rw [Tr.set_comm n m .nil (i / 2) (j / 2) a b (hdiv (by omega) (by simp at hi hj;omega)) (by omega) (by omega)]
    |node v l r =>
     by_cases hi:(i % 2 == 0)=true <;> by_cases hj:(j % 2 == 0)=true <;> simp only [Tr.set,hi,hj,if_true,if_false,gM]
     .rw [Tr.set_comm n m l (i / 2) (j / 2) a b (hdiv (by omega) (by simp at hi hj;omega)) (by omega) (by omega)]
     .rw [Tr.set_comm n m r (i / 2) (j / 2) a b (hdiv (by omega) (by simp at hi hj;omega)) (by omega) (by omega)]
theorem zwa (l:List ba):∀ (h:Heap) (i:Nat) (b:ba),i < l.length->((l.foldl Heap.push h).tr.set (h.size+i+1) (h.size+i) b)=((l.set i b).foldl Heap.push h).tr:=by
 have push:∀ (l:List ba) (h:Heap) (A:Nat) (b:ba),A < h.size->(l.foldl Heap.push h).tr.set (A+1) A b=(l.foldl Heap.push { h with tr:=h.tr.set (A+1) A b }).tr:=by
  intro l
  induction l with
  |nil=>intro h A b _;rfl
  |cons c l ih =>
   intro h A b hA
   rw [uM,uM,ih (h.push c) A b (by rw [Heap.size_push];omega)]
   congr 2
   simp only [Heap.push,Heap.mk.injEq,true_and,and_true]
   exact Tr.set_comm _ _ _ _ _ _ _ (by omega) (by omega) (by omega)
 induction l with
 |nil=>intro h i b hi;simp at hi
 |cons c l ih =>
  intro h i b hi
  cases i with
  |zero =>
   simp only [iU,uM,oV]
   rw [push l (h.push c) h.size b (by rw [Heap.size_push];omega)]
   congr 2
   simp only [Heap.push,Heap.mk.injEq,true_and,and_true]
   exact Tr.lu _ _ _ _ _ _ (by omega) (by omega)
  |succ i =>
   rw [uM,JT,uM]
   have:=ih (h.push c) i b (by simpa using hi)
   rw [Heap.size_push] at this
   rw [show h.size+(i+1)=h.size+1+i by omega]
   exact this
theorem QL (h:Heap) (l:List ba) (w i:Nat) (b:ba) (hi:i < l.length):(h.lay l w).set (h.size+i) b=h.lay (l.set i b) (min w (h.size+i)):=by
 unfold Heap.lay Heap.set
 simp only [Heap.mk.injEq]
 refine ⟨?_,zwa l h i b hi,trivial⟩
 rw [Tc,Tc,nT]
def tI (b:Option ba) (i o:Nat) (vs:List ab) (h:Heap) (l:List ba) (w:Nat):Option Heap:=match b with
 |some (.row cs e false)=>if (decide (o+vs.length<=cs.length) && vs.all one)=true then some (h.lay (l.set i (.row (aB cs o vs) e false)) (min w (h.size+i))) else none
 |_=>none
theorem sg (cs:List ab) (e:TypeId) (i o:Nat) (vs:List ab) (h:Heap) (l:List ba) (w:Nat) :
 tI (some (.row cs e false)) i o vs h l w=if (decide (o+vs.length<=cs.length) && vs.all one)=true then some (h.lay (l.set i (.row (aB cs o vs) e false)) (min w (h.size+i))) else none:=rfl
theorem xk {T:bI} {t n:Nat} (hs:dg T t=some n) (h:Heap) (l:List ba) (w i o:Nat) (v:ab) (hi:i < l.length) :
 iH T t (.pointer (some ⟨h.size+i,o,none⟩)) v (h.lay l w)=if v.cells.size=n then tI l[i]? i o v.cells.toList h l w else none:=by
 simp only [iH,hs,dM]
 split
 .unfold ki
  rw [iB]
  generalize hb:l[i]? = b
  cases b with
  |none=>rfl
  |some b =>
   cases b with
   |row cs e ro =>
    cases ro with
    |true=>rfl
    |false =>
     simp only [tI]
     split
     .rw [QL _ _ _ _ _ hi]
     .rfl
   |_=>rfl
 .rfl
section
variable {T:bI} {t e:TypeId} {bytes:Nat} {z:List ab}
end
end Go.Am
namespace Go.Am

inductive wu where
 |here
 |l (p:wu)
 |r (p:wu)
inductive ET where
 |leaf
 |node (v:ab) (l r:ET)
noncomputable def ET.get (p:wu):ET->ab :=
 wu.rec (motive:=λ_=>ET->ab) (λt=>ET.casesOn t undef λv _ _=>v) (λ_ ih t=>ET.casesOn t undef λ_ l _=>ih l) (λ_ ih t=>ET.casesOn t undef λ_ _ r=>ih r) p
noncomputable def ET.set (p:wu) (v:ab):ET->ET :=
 wu.rec (motive:=λ_=>ET->ET) (λt=>ET.casesOn t (.node v .leaf .leaf) λ_ l r=>.node v l r) (λ_ ih t=>ET.casesOn t (.node undef (ih .leaf) .leaf) λx l r=>.node x (ih l) r)
  (λ_ ih t=>ET.casesOn t (.node undef .leaf (ih .leaf)) λx l r=>.node x l (ih r)) p

structure FE where
 n:Nat
 t:ET

abbrev FK:=ab->Heap->Bool




section
variable (P:Program) (T:bI)


variable (C:Fn->List ab->Heap->FK->Bool)



def Jn (ops:Array Oper) (ms:List Nat):Bool :=
 (List.range ops.size).all λj=>match ops[j]? with
  |some oj=>oj.after.toList.all (λe => !Region.binds .any e || decide (e.on < j)) &&
   (List.range j).all λi=>(ms.getD j 0).testBit i || (match ops[i]? with
    |some oi=>oi.apart ops oj
    |none=>true)
  |none=>true
def Hz (ops:Array Oper) (i:Nat):Bool:=match ops[i]? with
 |some o=>tH T o
 |none=>true


end
end Go.Am
namespace Go.Am

theorem ET.ig:∀ p:wu,ET.get p .leaf=undef
 | .here=>rfl
 | .l _=>rfl
 | .r _=>rfl
theorem ET.aJ:∀ (p q:wu) (v:ab) (t:ET),(p=q->ET.get q (ET.set p v t)=v)/\(p≠q->ET.get q (ET.set p v t)=ET.get q t)
 | .here,.here,v,t=>⟨λ_=>by cases t <;> rfl,λh=>(h rfl).elim⟩
 | .here,.l q,v,t=>⟨λh=>(by cases h),λ_=>by
  cases t with
  |leaf=>exact ET.ig q
  |node x l r=>rfl⟩
 | .here,.r q,v,t=>⟨λh=>(by cases h),λ_=>by
  cases t with
  |leaf=>exact ET.ig q
  |node x l r=>rfl⟩
 | .l p,.here,v,t=>⟨λh=>(by cases h),λ_=>by cases t <;> rfl⟩
 | .r p,.here,v,t=>⟨λh=>(by cases h),λ_=>by cases t <;> rfl⟩
 | .l p,.r q,v,t=>⟨λh=>(by cases h),λ_=>by
  cases t with
  |leaf=>exact ET.ig q
  |node x l r=>rfl⟩
 | .r p,.l q,v,t=>⟨λh=>(by cases h),λ_=>by
  cases t with
  |leaf=>exact ET.ig q
  |node x l r=>rfl⟩
 | .l p,.l q,v,t=>by
  cases t with
  |leaf=>exact ⟨λh=>(ET.aJ p q v .leaf).1 (wu.l.inj h),λh=>((ET.aJ p q v .leaf).2 (λe=>h (by rw [e]))).trans (ET.ig q)⟩
  |node x l r=>exact ⟨λh=>(ET.aJ p q v l).1 (wu.l.inj h),λh=>(ET.aJ p q v l).2 (λe=>h (by rw [e]))⟩
 | .r p,.r q,v,t=>by
  cases t with
  |leaf=>exact ⟨λh=>(ET.aJ p q v .leaf).1 (wu.r.inj h),λh=>((ET.aJ p q v .leaf).2 (λe=>h (by rw [e]))).trans (ET.ig q)⟩
  |node x l r=>exact ⟨λh=>(ET.aJ p q v r).1 (wu.r.inj h),λh=>(ET.aJ p q v r).2 (λe=>h (by rw [e]))⟩




section
variable {P:Program} {T:bI} {ov:Ov}


















end
end Go.Am
namespace Go.Am
open Go.ChangeShapes Go.WideShapes Go.ChangeAt Go.RowKit

section
variable {H:Type} {enc:TypeId × ab->H} {P:Program}
theorem zym {f:Func} {s:ChangeSpec} {apart fresh handsOn again:Bool} {W W':World} {args:Array ab} {v:ab} {ds gs:List (DataW H)} {before pa pv:List MemPlace}
 (hW:DataW.Whole enc P f.params.toList s.vars apart W args.toList ds gs before)
 (iq:∀ (b:Nat) (sp:Nat->Bool) (hd:Bool),DataW.TrodAll enc P W' b sp hd f.resultTypes.toList (v.resultList f.resultTypes.size) (s.fn H (ds++gs)).results [])
 (dU:∀ sp:Nat->Bool,(∀ p∈before,sp p.block=true)->DataW.TrodAll enc P W' 0 sp true f.params.toList args.toList (s.fn H (ds++gs)).args pa)
 (rm:∀ sp:Nat->Bool,(∀ p∈before,sp p.block=true)->DataW.TrodVars enc P W' sp s.vars (s.fn H (ds++gs)).vars pv)
 (pq:before=pa++pv) (hb:Below W.heap.size W W')
 (cE:∀ (j:Nat) (t:TypeId) (r:ab),f.resultTypes[j]? = some t->(v.resultList f.resultTypes.size)[j]? = some r->Value.okWide P W' .any 0 t r) :
 s.post enc P f apart fresh handsOn again W args v W':=by
 have below:∀ p∈before,p.block < W.heap.size:=λp hp=>hW.lt p hp
 have eO:∀ p∈before,(λb=>decide (b < W.heap.size)) p.block=true:=λp hp=>by simpa using below p hp
 have mem:∀ p,p∈before↔p∈([]++pa)++pv:=λp=>by rw [pq];simp
 refine ⟨ds,gs,before,[],pa,pv,hW,iq _ _ _,dU _ eO,rm _ eO,World.keptBut_mono (λp hp=>⟨hp,?_⟩) (hb.frame (·∈before)),λ_=>?_⟩
 .rw [pq,mj] at hp
  exact .inr hp
 obtain ⟨_,_,_,_,_,hz,hn⟩:=hW
 refine ⟨cE,_,_,([]++pa)++pv,⟨[]++pa,pv,trodAll_append (dU _ (λ_ _=>rfl)) (iq _ _ _),rm _ (λ_ _=>rfl),rfl,λb off hp=>?_,λha=>?_⟩,?_⟩
 .have aO:=(mem _).2 hp
  rw [hb.frozen (below _ aO)]
  exact hz b off aO
 .have:=hn ha
  rw [pq] at this
  simpa using this
 .exact λp hp _=>(mem p).2 hp
end


end Go.Am
