/- Strings in order, and the texts of atoms: plain facts about lists of bytes. No condition. -/
import Derived.Lib.Bytealg
import Derived.Test.YtkgojconmeeegaaGreatDoorG10
set_option linter.unusedSimpArgs false
set_option linter.unusedVariables false
namespace Go.Am
open Go.Lib
abbrev Bs:=List UInt8
theorem IJ (a:UInt8):¬ a < a:=by rw [UInt8.lt_iff_toNat_lt];omega
theorem zr8 {a b:UInt8} (h1:¬ a < b) (h2:¬ b < a):a=b:=by
 rw [UInt8.lt_iff_toNat_lt] at h1 h2
 exact UInt8.toNat_inj.1 (by omega)
theorem RQ:∀ a:Bs,compareBytes a a=0
 | []=>rfl
 |a::al=>by rw [compareBytes,if_neg (IJ a),if_neg (IJ a)];exact RQ al
theorem JW:∀ {a b:Bs},compareBytes a b=0→a=b
 | [],[],_=>rfl
 | [],_::_,h=>by simp [compareBytes] at h
 |_::_,[],h=>by simp [compareBytes] at h
 |a::al,b::bs,h=>by
  rw [compareBytes] at h
  split at h
  ·simp at h
  ·rename_i h1
   split at h
   ·simp at h
   ·rename_i h2
    rw [zr8 h1 h2,JW h]
theorem Un:∀ a b:Bs,compareBytes a b = - compareBytes b a
 | [],[]=>rfl
 | [],_::_=>rfl
 |_::_,[]=>rfl
 |a::al,b::bs=>by
  rw [compareBytes,compareBytes]
  by_cases h1:a < b
  ·have h2:¬ b < a:=by rw [UInt8.lt_iff_toNat_lt] at h1 ⊢;omega
   rw [if_pos h1,if_neg h2,if_pos h1]
  ·rw [if_neg h1]
   by_cases h2:b < a
   ·rw [if_pos h2,if_pos h2];rfl
   ·rw [if_neg h2,if_neg h2,if_neg h1];exact Un al bs
theorem znr:∀ a b:Bs,compareBytes a b = -1∨compareBytes a b=0∨compareBytes a b=1
 | [],[]=>.inr (.inl rfl)
 | [],_::_=>.inl rfl
 |_::_,[]=>.inr (.inr rfl)
 |a::al,b::bs=>by
  rw [compareBytes]
  split
  ·exact .inl rfl
  ·split
   ·exact .inr (.inr rfl)
   ·exact znr al bs
theorem zns:∀ {a b c:Bs},compareBytes a b < 0→compareBytes b c < 0→compareBytes a c < 0
 | [],[],_,h,_=>by simp [compareBytes] at h
 | [],_::_,[],_,h=>by simp [compareBytes] at h
 | [],_::_,_::_,_,_=>by simp [compareBytes]
 |_::_,[],_,h,_=>by simp [compareBytes] at h
 |_::_,_::_,[],_,h=>by simp [compareBytes] at h
 |a::al,b::bs,c::cs,h,k=>by
  rw [compareBytes] at h k ⊢
  simp only [UInt8.lt_iff_toNat_lt] at h k ⊢
  by_cases h1:a.toNat < b.toNat
  ·by_cases h2:b.toNat < c.toNat
   ·rw [if_pos (by omega)];decide
   ·rw [if_neg h2] at k
    split at k
    ·simp at k
    ·rw [if_pos (by omega)];decide
  ·rw [if_neg h1] at h
   split at h
   ·simp at h
   ·by_cases h2:b.toNat < c.toNat
    ·rw [if_pos (by omega)];decide
    ·rw [if_neg h2] at k
     split at k
     ·simp at k
     ·rw [if_neg (by omega),if_neg (by omega)]
      exact zns h k

/-! ### Words and marks -/
def oF (c:UInt8):Prop:=c.toNat≠32∧c.toNat≠40∧c.toNat≠41∧c.toNat≠44
def Word (s:Bs):Prop:=∀ c∈s,oF c
theorem HC:∀ {s t x y:Bs} {c d:UInt8},Word s→Word t→¬ oF c→¬ oF d→s++c::x=t++d::y→s=t∧c=d∧x=y
 | [],[],x,y,c,d,_,_,_,_,h=>by simp at h;exact ⟨rfl,h.1,h.2⟩
 | [],b::t,x,y,c,d,_,ht,hc,_,h=>by
  simp at h
  exact (hc (by rw [h.1];exact ht b (by simp))).elim
 |a::s,[],x,y,c,d,hs,_,_,hd,h=>by
  simp at h
  exact (hd (by rw [← h.1];exact hs a (by simp))).elim
 |a::s,b::t,x,y,c,d,hs,ht,hc,hd,h=>by
  simp at h
  obtain ⟨h1,h2,h3⟩:=HC (fun q hq=>hs q (by simp [hq])) (fun q hq=>ht q (by simp [hq])) hc hd h.2
  exact ⟨by rw [h.1,h1],h2,h3⟩
theorem Uu:∀ {s t y:Bs} {d:UInt8},Word s→¬ oF d→s≠t++d::y
 | [],t,y,d,_,_,h=>by cases t <;> simp at h
 |a::s,[],y,d,hs,hd,h=>by
  simp at h
  exact hd (by rw [← h.1];exact hs a (by simp))
 |a::s,b::t,y,d,hs,hd,h=>by
  simp at h
  exact Uu (fun q hq=>hs q (by simp [hq])) hd h.2
def Kx (names:List Bs):Bs:=match names with
 | []=>[]
 |n::ns=>40::(join (n::ns) [44,32]++[41])
def SL (says pred:Bs) (names:List Bs):Bs:=says++[32,115,97,121,115,32]++pred++Kx names
theorem W1 (n m:Bs) (ns:List Bs):join (n::m::ns) [44,32]=n++(44::32::join (m::ns) [44,32]):=by
 simp [join,List.intercalate]
theorem zrA:∀ {l m:List Bs},(∀ n∈l,Word n)→(∀ n∈m,Word n)→l≠[]→m≠[]→join l [44,32]++[41]=join m [44,32]++[41]→l=m
 | [],_,_,_,h,_,_=>(h rfl).elim
 |_::_,[],_,_,_,h,_=>(h rfl).elim
 | [a],[b],ha,hb,_,_,h=>by
  rw [join_one,join_one] at h
  rw [(HC (ha a (by simp)) (hb b (by simp)) (by simp [oF]) (by simp [oF]) h).1]
 | [a],b::c::m,ha,hb,_,_,h=>by
  rw [join_one,W1] at h
  simp only [List.append_assoc,List.cons_append] at h
  have:=(HC (ha a (by simp)) (hb b (by simp)) (by simp [oF]) (by simp [oF]) h).2.1
  simp at this
 |a::c::l,[b],ha,hb,_,_,h=>by
  rw [join_one,W1] at h
  simp only [List.append_assoc,List.cons_append] at h
  have:=(HC (ha a (by simp)) (hb b (by simp)) (by simp [oF]) (by simp [oF]) h).2.1
  simp at this
 |a::c::l,b::d::m,ha,hb,_,_,h=>by
  rw [W1,W1] at h
  simp only [List.append_assoc,List.cons_append] at h
  obtain ⟨h1,_,h3⟩:=HC (ha a (by simp)) (hb b (by simp)) (by simp [oF]) (by simp [oF]) h
  simp only [List.cons.injEq,true_and] at h3
  have:=zrA (fun n hn=>ha n (by simp at hn ⊢;exact .inr hn)) (fun n hn=>hb n (by simp at hn ⊢;exact .inr hn)) (by simp) (by simp) h3
  rw [h1,this]
theorem zEc {s s' p p':Bs} {l l':List Bs} (hs:Word s) (jH:Word s') (hp:Word p) (mP:Word p') (hl:∀ n∈l,Word n) (tU:∀ n∈l',Word n) (h:SL s p l=SL s' p' l'):s=s'∧p=p'∧l=l':=by
 unfold SL at h
 simp only [List.append_assoc,List.cons_append,List.nil_append] at h
 obtain ⟨h1,_,h2⟩:=HC hs jH (by simp [oF]) (by simp [oF]) h
 simp only [List.cons.injEq,true_and] at h2
 cases l with
 |nil =>
  cases l' with
  |nil=>simp only [Kx,List.append_nil] at h2;exact ⟨h1,h2,rfl⟩
  |cons n' ns' =>
   simp only [Kx,List.append_nil] at h2
   exact (Uu hp (by simp [oF]) h2).elim
 |cons n ns =>
  cases l' with
  |nil =>
   simp only [Kx,List.append_nil] at h2
   exact (Uu mP (by simp [oF]) h2.symm).elim
  |cons n' ns' =>
   simp only [Kx] at h2
   obtain ⟨h3,_,h4⟩:=HC hp mP (by simp [oF]) (by simp [oF]) h2
   exact ⟨h1,h3,zrA hl tU (by simp) (by simp) h4⟩
end Go.Am
namespace Go.Am
def aO (l:List ab):List Value:=l.flatMap ab.cells
theorem nt (l:List ab):(aO l).length=l.length*11:=by
 unfold aO
 induction l with
 |nil=>rfl
 |cons x l ih=>rw [List.flatMap_cons,List.length_append,ih,List.length_cons];show 11+_=_;omega
theorem zrV {l:List ab} {i:Nat} {x:ab} (h:l[i]? = some x):cut (aO l) (i*11) 11=some x.cells:=by
 have hi:=(List.getElem?_eq_some_iff.1 h).1
 unfold cut
 rw [if_pos (by rw [nt];omega)]
 congr 1
 unfold aO
 induction l generalizing i with
 |nil=>simp at h
 |cons y l ih =>
  cases i with
  |zero =>
   simp at h
   subst h
   rfl
  |succ i =>
   rw [List.flatMap_cons,show (i+1)*11=y.cells.length+i*11 by show _=11+_;omega,List.drop_append]
   have h2:y.cells.drop (y.cells.length+i*11)=[]:=List.drop_of_length_le (by omega)
   rw [h2,List.nil_append,Nat.add_sub_cancel_left]
   exact ih (by simpa using h) (by simpa using hi)
theorem zrW {l:List ab} {i:Nat} {x:ab} (hi:i < l.length):az (aO l) (i*11) x.cells=aO (l.set i x):=by
 unfold az
 have hx:x.cells.length=11:=rfl
 rw [hx]
 unfold aO
 induction l generalizing i with
 |nil=>simp at hi
 |cons y l ih =>
  have hy:y.cells.length=11:=rfl
  cases i with
  |zero =>
   rw [List.set_cons_zero,List.flatMap_cons,List.flatMap_cons,Nat.zero_mul,List.take_zero,List.nil_append,Nat.zero_add,List.drop_append,List.drop_of_length_le (by omega),hy]
   simp
  |succ i =>
   rw [List.set_cons_succ,List.flatMap_cons,List.flatMap_cons,← ih (i:=i) (by simpa using hi)]
   rw [show (i+1)*11=y.cells.length+i*11 by omega,List.take_append,List.take_of_length_le (by omega),Nat.add_sub_cancel_left,show y.cells.length+i*11+11=y.cells.length+(i*11+11) by omega,List.drop_append,List.drop_of_length_le (by omega),Nat.add_sub_cancel_left]
   simp
theorem CE {T:bK} {t u:TypeId} {A i:Nat} {l:List ab} {x:ab} {h1:Heap} {bs:List bh} {w:Nat} {K:Value→Heap→Prop} (q:Holds h1 A (.row (aO l) u false)) (hs:bJ T t=some 11) (hi:i < l.length)
 (hK:∀ h',Holds h' A (.row (aO (l.set i x)) u false)→fp A (h1.lay bs w) h'→K undef h'):iw (ic T t (.pointer (some ⟨A,i*11,none⟩)) x.val (h1.lay bs w)) K:=by
 have hg:(h1.lay bs w).get A=some (.row (aO l) u false):=q.lay bs w
 have hA:A < (h1.lay bs w).size:=(q.on bs w).lt
 have he:ic T t (.pointer (some ⟨A,i*11,none⟩)) x.val (h1.lay bs w)=some ((h1.lay bs w).set A (.row (aO (l.set i x)) u false)):=by
  unfold ic
  simp only [hs,Option.bind_some]
  have h1:x.val.cells.toList=x.cells:=rfl
  have h2:x.val.cells.size=11:=rfl
  have h3:x.cells.length=11:=rfl
  have h4:x.cells.all one=true:=rfl
  rw [if_pos h2,h1]
  unfold kj
  rw [hg]
  simp only
  rw [if_pos (by simp only [Bool.and_eq_true,decide_eq_true_eq];exact ⟨by rw [nt,h3];omega,h4⟩),zrW hi]
 rw [he]
 refine hK _ ⟨by rw [Heap.size_set];exact hA,by rw [Heap.aD _ _ _ _ hA,if_pos rfl]⟩ ⟨by rw [Heap.size_set];exact Nat.le_refl _,fun B hB aP=>by rw [Heap.aD _ _ _ _ hA,if_neg aP],by rw [Heap.bW];omega⟩
theorem nR {u:TypeId} {A i:Nat} {l:List ab} {x:ab} {ro:Bool} {h1:Heap} {bs:List bh} {w:Nat} (q:Holds h1 A (.row (aO l) u ro)) (hx:l[i]? = some x):lM ((h1.lay bs w).get A) (i*11) 11=some x.val:=by
 have hh:(h1.lay bs w).get A=some (.row (aO l) u ro):=q.lay bs w
 rw [hh]
 show (cut (aO l) (i*11) 11).map _=_
 rw [zrV hx]
 rfl
/-! ### Swaps, order -/
def kO (l:List ab) (i j:Nat):List ab:=(l.set i (l.getD j aj)).set j (l.getD i aj)
theorem zit (l:List ab) (i j:Nat):(kO l i j).length=l.length:=by unfold kO;rw [List.length_set,List.length_set]
theorem jn {l:List ab} {i:Nat} (h:i < l.length):l[i]? = some (l.getD i aj):=by
 rw [List.getD_eq_getElem?_getD,List.getElem?_eq_getElem h]
 rfl
theorem En {l:List ab} {i j:Nat} (hi:i < l.length) (hj:j < l.length) (k:Nat):(kO l i j).getD k aj=if k=j then l.getD i aj else if k=i then l.getD j aj else l.getD k aj:=by
 unfold kO
 rw [List.getD_eq_getElem?_getD,List.getElem?_set,List.length_set]
 by_cases h1:j=k
 ·subst h1
  rw [if_pos rfl,if_pos hj,if_pos rfl]
  rfl
 ·rw [if_neg h1,if_neg (fun e=>h1 e.symm),List.getElem?_set]
  by_cases h2:i=k
  ·subst h2
   rw [if_pos rfl,if_pos hi,if_pos rfl]
   rfl
  ·rw [if_neg h2,if_neg (fun e=>h2 e.symm),List.getD_eq_getElem?_getD]
theorem TO {l:List ab} {i j:Nat} (hi:i < l.length) (hj:j < l.length):(kO l i j).Perm l:=by
 unfold kO
 have e1:l.getD i aj=l[i]:=by rw [List.getD_eq_getElem?_getD,List.getElem?_eq_getElem hi];rfl
 have e2:l.getD j aj=l[j]:=by rw [List.getD_eq_getElem?_getD,List.getElem?_eq_getElem hj];rfl
 rw [e1,e2]
 exact List.set_set_perm hi hj
theorem vx (a b:ab):aQ a b = - aQ b a:=Un _ _
theorem J1 {a b:ab} (h:¬ aQ a b < 0):aQ b a≤0:=by
 rw [vx b a]
 omega
theorem Hz {a b c:ab} (h1:aQ a b≤0) (h2:aQ b c≤0):aQ a c≤0:=by
 by_cases e1:aQ a b=0
 ·have:=JW e1
  unfold aQ at *
  rw [this]
  exact h2
 ·by_cases e2:aQ b c=0
  ·have:=JW e2
   unfold aQ at *
   rw [← this]
   exact h1
  ·have h3:aQ a b < 0:=by omega
   have h4:aQ b c < 0:=by omega
   exact Int.le_of_lt (zns h3 h4)
def gY (l:List ab) (a b:Nat):Prop:=∀ k,a < k→k < b→aQ (l.getD (k - 1) aj) (l.getD k aj)≤0
def HL (l l':List ab) (a b:Nat):Prop:=∀ k,k < a∨b≤k→l'.getD k aj=l.getD k aj
def SE (l:List ab) (a i j:Nat):Prop:=(∀ k,a < k→k≤i→k≠j→aQ (l.getD (k - 1) aj) (l.getD k aj)≤0)∧(a < j→j < i→aQ (l.getD (j - 1) aj) (l.getD (j+1) aj)≤0)
theorem zqN {l:List ab} {a i:Nat} (h:gY l a i):SE l a i i:=⟨fun k h1 h2 h3=>h k h1 (by omega),fun _ h=>by omega⟩
theorem zoT {l:List ab} {a i j:Nat} (h:SE l a i j) (hj:j≤i) (he:a < j→aQ (l.getD (j - 1) aj) (l.getD j aj)≤0):gY l a (i+1):=by
 intro k h1 h2
 by_cases Yy:k=j
 ·subst Yy
  exact he h1
 ·exact h.1 k h1 (by omega) Yy
theorem ztF {l:List ab} {a i j:Nat} (h:SE l a i j) (Bf:a < j) (ke:j≤i) (hi:i < l.length) (aR:aQ (l.getD j aj) (l.getD (j - 1) aj) < 0):SE (kO l j (j - 1)) a i (j - 1):=by
 have g:=fun k=>En (l:=l) (i:=j) (j:=j - 1) (by omega) (by omega) k
 refine ⟨fun k h1 h2 h3=>?_,fun h1 h2=>?_⟩
 ·rw [g,g]
  by_cases e1:k=j
  ·subst e1
   rw [if_pos rfl,if_neg (by omega),if_pos rfl]
   omega
  ·by_cases e2:k=j+1
   ·subst e2
    rw [if_neg (by omega),if_pos (by omega),if_neg (by omega),if_neg (by omega)]
    have:=h.2 Bf (by omega)
    exact this
   ·rw [if_neg (by omega),if_neg (by omega),if_neg (by omega),if_neg (by omega)]
    exact h.1 k h1 h2 (by omega)
 ·rw [g,g]
  rw [if_neg (by omega),if_neg (by omega),if_neg (by omega),if_pos (by omega)]
  exact h.1 (j - 1) h1 (by omega) (by omega)
theorem zoQ {l l1:List ab} {a i j:Nat} (h:HL l l1 a (i+1)) (Bf:a < j) (ke:j≤i) (hi:i < l1.length):HL l (kO l1 j (j - 1)) a (i+1):=by
 intro k hk
 rw [En (by omega) (by omega),if_neg (by omega),if_neg (by omega)]
 exact h k hk
theorem Ej {l l1:List ab} (h:∀ x∈l,x.aT=true) (p:l1.Perm l):∀ x∈l1,x.aT=true:=fun x hx=>h x (p.mem_iff.1 hx)
theorem rm {l:List ab} (h:∀ x∈l,x.aT=true) {k:Nat} (hk:k < l.length):(l.getD k aj).aT=true:=h _ (List.mem_of_getElem? (jn hk))
def Ey (l l':List ab) (a b n:Nat):Prop:=∀ k,l'.getD k aj=if a≤k∧k < a+n then l.getD (k - a+b) aj else if b≤k∧k < b+n then l.getD (k - b+a) aj else l.getD k aj
theorem zqX (l:List ab) (a b:Nat):Ey l l a b 0:=by
 intro k
 rw [if_neg (by omega),if_neg (by omega)]
theorem zqW {l l1:List ab} {a b n i:Nat} (h:Ey l l1 a b i) (hd:a+n≤b) (hi:i < n) (hb:b+n≤l1.length):Ey l (kO l1 (a+i) (b+i)) a b (i+1):=by
 intro k
 rw [En (by omega) (by omega),h,h,h]
 repeat' split
 all_goals first|rfl|(exfalso;omega)|(congr 1;omega)
def Ib (t cur:List ab) (m i j:Nat):Prop:=∀ k,t.getD k aj=if m - i≤k∧k < m+j then (if k < m - i+j then cur.getD (k+i) aj else cur.getD (k - j) aj) else cur.getD k aj
theorem zt5 {t cur new:List ab} {m i j:Nat} (h:Ib t cur m i j) (tT:i≤m) (di:j < i) (hs:Ey cur new (m - i) m j):Ib t new m (i - j) j:=by
 intro k
 rw [h k,hs k,hs (k+(i - j)),hs (k - j)]
 repeat' split
 all_goals first|rfl|(exfalso;omega)|(congr 1;omega)
theorem zq4 {t cur new:List ab} {m i j:Nat} (h:Ib t cur m i j) (tT:i≤m) (di:i < j) (hs:Ey cur new (m - i) (m+j - i) i):Ib t new m i (j - i):=by
 intro k
 rw [h k,hs k,hs (k+i),hs (k - (j - i))]
 repeat' split
 all_goals first|rfl|(exfalso;omega)|(congr 1;omega)
theorem zyf {t cur new:List ab} {m i:Nat} (h:Ib t cur m i i) (tT:i≤m) (hs:Ey cur new (m - i) m i):∀ k,t.getD k aj=new.getD k aj:=by
 intro k
 rw [h k,hs k]
 repeat' split
 all_goals first|rfl|(exfalso;omega)|(congr 1;omega)
theorem Uj {l m:List ab} (hl:l.length=m.length) (h:∀ k,l.getD k aj=m.getD k aj):l=m:=by
 apply List.ext_getElem hl
 intro k h1 h2
 have:=h k
 rw [List.getD_eq_getElem?_getD,List.getD_eq_getElem?_getD,List.getElem?_eq_getElem h1,List.getElem?_eq_getElem h2] at this
 exact this
def zl (l:List ab) (a m b:Nat):List ab:=(List.range l.length).map fun k=>if a≤k∧k < b then (if k < a+(b - m) then l.getD (k+(m - a)) aj else l.getD (k - (b - m)) aj) else l.getD k aj
theorem ziu (l:List ab) (a m b:Nat):(zl l a m b).length=l.length:=by unfold zl;rw [List.length_map,List.length_range]
theorem zrx {l:List ab} {k:Nat} (h:l.length≤k):l.getD k aj=aj:=by
 rw [List.getD_eq_getElem?_getD,List.getElem?_eq_none h]
 rfl
theorem Xi {l:List ab} {a m b:Nat} (hb:b≤l.length) (k:Nat):(zl l a m b).getD k aj=if a≤k∧k < b then (if k < a+(b - m) then l.getD (k+(m - a)) aj else l.getD (k - (b - m)) aj) else l.getD k aj:=by
 by_cases hk:k < l.length
 ·rw [List.getD_eq_getElem?_getD]
  unfold zl
  rw [List.getElem?_map,List.getElem?_range hk]
  rfl
 ·rw [zrx (by rw [ziu];omega),if_neg (by omega),zrx (by omega)]
theorem zq5 {l:List ab} {a m b:Nat} (zT:a≤m) (Ai:m≤b) (hb:b≤l.length):Ib (zl l a m b) l m (m - a) (b - m):=by
 intro k
 rw [Xi hb]
 repeat' split
 all_goals first|rfl|(exfalso;omega)|(congr 1;omega)
/-! ### Equal texts keep their order -/
def eV (l l':List ab):Prop:=∀ t:List UInt8,l'.filter (fun x=>cI x == t)=l.filter (fun x=>cI x == t)
theorem eV.refl (l:List ab):eV l l:=fun _=>rfl
theorem eV.trans {l l1 l2:List ab} (x:eV l l1) (y:eV l1 l2):eV l l2:=fun t=>(y t).trans (x t)
theorem J0 {a b:ab} (h:aQ a b < 0):cI a≠cI b:=by
 intro e
 unfold aQ at h
 rw [e,RQ] at h
 omega
theorem T8:∀ {l:List ab} {k:Nat},k+1 < l.length→cI (l.getD k aj)≠cI (l.getD (k+1) aj)→eV l (kO l k (k+1))
 | [],k,hk,_=>by simp at hk
 | [x],k,hk,_=>by simp at hk
 |x::y::r,0,_,aP=>by
  intro t
  have e:kO (x::y::r) 0 1=y::x::r:=rfl
  rw [e]
  have acG:cI x≠cI y:=aP
  by_cases hx:cI x=t
  ·have hy:¬ cI y=t:=fun h=>acG (hx.trans h.symm)
   simp [List.filter_cons,hx,hy]
  ·simp [List.filter_cons,hx]
 |x::y::r,k+1,hk,aP=>by
  intro t
  have e:kO (x::y::r) (k+1) (k+1+1)=x::kO (y::r) k (k+1):=rfl
  rw [e,List.filter_cons,List.filter_cons,T8 (l:=y::r) (k:=k) (by simpa using hk) aP t]
theorem ztO {l:List ab} {i j:Nat} (hi:i < l.length) (hj:j < l.length):kO l i j=kO l j i:=by
 refine Uj (by rw [zit,zit]) (fun k=>?_)
 rw [En hi hj,En hj hi]
 repeat' split
 all_goals first|rfl|(subst_vars;rfl)
theorem zo0 {l:List ab} {j:Nat} (h0:0 < j) (hj:j < l.length) (aR:aQ (l.getD j aj) (l.getD (j - 1) aj) < 0):eV l (kO l j (j - 1)):=by
 rw [ztO hj (by omega)]
 have:=T8 (l:=l) (k:=j - 1) (by omega) (by rw [show j - 1+1=j by omega];exact fun e=>J0 aR e.symm)
 rwa [show j - 1+1=j by omega] at this
theorem zGK {l:List ab} {k:Nat} (hk:k+1 < l.length) (aR:aQ (l.getD (k+1) aj) (l.getD k aj) < 0):eV l (kO l k (k+1)):=T8 hk (fun e=>J0 aR e.symm)
end Go.Am
