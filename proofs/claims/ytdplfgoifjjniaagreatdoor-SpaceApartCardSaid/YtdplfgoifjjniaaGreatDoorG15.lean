/- Strings in order, and the texts of atoms: plain facts about lists of bytes. No condition. -/
import Derived.Lib.Bytealg
import Derived.Lib.Join
import Derived.Test.YtdplfgoifjjniaaGreatDoorG14
namespace Go.Am
open Go.Lib
abbrev Bs:=List UInt8
theorem zhr (a:UInt8):¬ a < a:=by rw [UInt8.lt_iff_toNat_lt];omega
theorem zwO {a b:UInt8} (h1:¬ a < b) (h2:¬ b < a):a=b:=by
 rw [UInt8.lt_iff_toNat_lt] at h1 h2
 exact UInt8.toNat_inj.1 (by omega)
theorem zhR:∀ a:Bs,compareBytes a a=0
 | []=>rfl
 |a::al=>by rw [compareBytes,if_neg (zhr a),if_neg (zhr a)];exact zhR al
theorem zgl:∀ {a b:Bs},compareBytes a b=0→a=b
 | [],[],_=>rfl
 | [],_::_,h=>by simp [compareBytes] at h
 |_::_,[],h=>by simp [compareBytes] at h
 |a::al,b::bs,h=>by
  rw [compareBytes] at h
  split at h
  ·simp at h
  ·rename_i h1
   split at h
   ·simp at h
   ·rename_i h2
    rw [zwO h1 h2,zgl h]
theorem zpl:∀ a b:Bs,compareBytes a b = - compareBytes b a
 | [],[]=>rfl
 | [],_::_=>rfl
 |_::_,[]=>rfl
 |a::al,b::bs=>by
  rw [compareBytes,compareBytes]
  by_cases h1:a < b
  ·have h2:¬ b < a:=by rw [UInt8.lt_iff_toNat_lt] at h1 ⊢;omega
   rw [if_pos h1,if_neg h2,if_pos h1]
  ·rw [if_neg h1]
   by_cases h2:b < a
   ·rw [if_pos h2,if_pos h2];rfl
   ·rw [if_neg h2,if_neg h2,if_neg h1];exact zpl al bs
theorem zmz:∀ {a b c:Bs},compareBytes a b < 0→compareBytes b c < 0→compareBytes a c < 0
 | [],[],_,h,_=>by simp [compareBytes] at h
 | [],_::_,[],_,h=>by simp [compareBytes] at h
 | [],_::_,_::_,_,_=>by simp [compareBytes]
 |_::_,[],_,h,_=>by simp [compareBytes] at h
 |_::_,_::_,[],_,h=>by simp [compareBytes] at h
 |a::al,b::bs,c::cs,h,k=>by
  rw [compareBytes] at h k ⊢
  simp only [UInt8.lt_iff_toNat_lt] at h k ⊢
  by_cases h1:a.toNat < b.toNat
  ·by_cases h2:b.toNat < c.toNat
   ·rw [if_pos (by omega)];decide
   ·rw [if_neg h2] at k
    split at k
    ·simp at k
    ·rw [if_pos (by omega)];decide
  ·rw [if_neg h1] at h
   split at h
   ·simp at h
   ·by_cases h2:b.toNat < c.toNat
    ·rw [if_pos (by omega)];decide
    ·rw [if_neg h2] at k
     split at k
     ·simp at k
     ·rw [if_neg (by omega),if_neg (by omega)]
      exact zmz h k

/-! ### Words and marks -/
def zd4 (c:UInt8):Prop:=c.toNat≠32∧c.toNat≠40∧c.toNat≠41∧c.toNat≠44
def Word (s:Bs):Prop:=∀ c∈s,zd4 c
theorem zcP:∀ {s t x y:Bs} {c d:UInt8},Word s→Word t→¬ zd4 c→¬ zd4 d→s++c::x=t++d::y→s=t∧c=d∧x=y
 | [],[],x,y,c,d,_,_,_,_,h=>by simp at h;exact ⟨rfl,h.1,h.2⟩
 | [],b::t,x,y,c,d,_,ht,hc,_,h=>by
  simp at h
  exact (hc (by rw [h.1];exact ht b (by simp))).elim
 |a::s,[],x,y,c,d,hs,_,_,hd,h=>by
  simp at h
  exact (hd (by rw [← h.1];exact hs a (by simp))).elim
 |a::s,b::t,x,y,c,d,hs,ht,hc,hd,h=>by
  simp at h
  obtain ⟨h1,h2,h3⟩:=zcP (fun q hq=>hs q (by simp [hq])) (fun q hq=>ht q (by simp [hq])) hc hd h.2
  exact ⟨by rw [h.1,h1],h2,h3⟩
theorem zld:∀ {s t y:Bs} {d:UInt8},Word s→¬ zd4 d→s≠t++d::y
 | [],t,y,d,_,_,h=>by cases t <;> simp at h
 |a::s,[],y,d,hs,hd,h=>by
  simp at h
  exact hd (by rw [← h.1];exact hs a (by simp))
 |a::s,b::t,y,d,hs,hd,h=>by
  simp at h
  exact zld (fun q hq=>hs q (by simp [hq])) hd h.2
def zrA (names:List Bs):Bs:=match names with
 | []=>[]
 |n::ns=>40::(join (n::ns) [44,32]++[41])
def zrV (says pred:Bs) (names:List Bs):Bs:=says++[32,115,97,121,115,32]++pred++zrA names
theorem zfA (n m:Bs) (ns:List Bs):join (n::m::ns) [44,32]=n++(44::32::join (m::ns) [44,32]):=by
 simp [join,List.intercalate]
theorem zpA:∀ {l m:List Bs},(∀ n∈l,Word n)→(∀ n∈m,Word n)→l≠[]→m≠[]→join l [44,32]++[41]=join m [44,32]++[41]→l=m
 | [],_,_,_,h,_,_=>(h rfl).elim
 |_::_,[],_,_,_,h,_=>(h rfl).elim
 | [a],[b],ha,hb,_,_,h=>by
  rw [join_one,join_one] at h
  rw [(zcP (ha a (by simp)) (hb b (by simp)) (by simp [zd4]) (by simp [zd4]) h).1]
 | [a],b::c::m,ha,hb,_,_,h=>by
  rw [join_one,zfA] at h
  simp only [List.append_assoc,List.cons_append] at h
  have:=(zcP (ha a (by simp)) (hb b (by simp)) (by simp [zd4]) (by simp [zd4]) h).2.1
  simp at this
 |a::c::l,[b],ha,hb,_,_,h=>by
  rw [join_one,zfA] at h
  simp only [List.append_assoc,List.cons_append] at h
  have:=(zcP (ha a (by simp)) (hb b (by simp)) (by simp [zd4]) (by simp [zd4]) h).2.1
  simp at this
 |a::c::l,b::d::m,ha,hb,_,_,h=>by
  rw [zfA,zfA] at h
  simp only [List.append_assoc,List.cons_append] at h
  obtain ⟨h1,_,h3⟩:=zcP (ha a (by simp)) (hb b (by simp)) (by simp [zd4]) (by simp [zd4]) h
  simp only [List.cons.injEq,true_and] at h3
  have:=zpA (fun n hn=>ha n (by simp at hn ⊢;exact .inr hn)) (fun n hn=>hb n (by simp at hn ⊢;exact .inr hn)) (by simp) (by simp) h3
  rw [h1,this]
theorem zyZ {s s' p p':Bs} {l l':List Bs} (hs:Word s) (hs':Word s') (hp:Word p) (hp':Word p') (hl:∀ n∈l,Word n) (hl':∀ n∈l',Word n) (h:zrV s p l=zrV s' p' l'):s=s'∧p=p'∧l=l':=by
 unfold zrV at h
 simp only [List.append_assoc,List.cons_append,List.nil_append] at h
 obtain ⟨h1,_,h2⟩:=zcP hs hs' (by simp [zd4]) (by simp [zd4]) h
 simp only [List.cons.injEq,true_and] at h2
 cases l with
 |nil =>
  cases l' with
  |nil=>simp only [zrA,List.append_nil] at h2;exact ⟨h1,h2,rfl⟩
  |cons n' ns' =>
   simp only [zrA,List.append_nil] at h2
   exact (zld hp (by simp [zd4]) h2).elim
 |cons n ns =>
  cases l' with
  |nil =>
   simp only [zrA,List.append_nil] at h2
   exact (zld hp' (by simp [zd4]) h2.symm).elim
  |cons n' ns' =>
   simp only [zrA] at h2
   obtain ⟨h3,_,h4⟩:=zcP hp hp' (by simp [zd4]) (by simp [zd4]) h2
   exact ⟨h1,h3,zpA hl hl' (by simp) (by simp) h4⟩
end Go.Am
namespace Go.Am
set_option linter.unusedVariables false
set_option linter.unusedSimpArgs false
def rowA (l:List AtomD):List Value:=l.flatMap AtomD.cells
theorem zaK (l:List AtomD):(rowA l).length=l.length*11:=by
 unfold rowA
 induction l with
 |nil=>rfl
 |cons x l ih=>rw [List.flatMap_cons,List.length_append,ih,List.length_cons];show 11+_=_;omega
theorem zpR {l:List AtomD} {i:Nat} {x:AtomD} (h:l[i]? = some x):cut (rowA l) (i*11) 11=some x.cells:=by
 have hi:=(List.getElem?_eq_some_iff.1 h).1
 unfold cut
 rw [if_pos (by rw [zaK];omega)]
 congr 1
 unfold rowA
 induction l generalizing i with
 |nil=>simp at h
 |cons y l ih =>
  cases i with
  |zero =>
   simp at h
   subst h
   rfl
  |succ i =>
   rw [List.flatMap_cons,show (i+1)*11=y.cells.length+i*11 by show _=11+_;omega,List.drop_append]
   have h2:y.cells.drop (y.cells.length+i*11)=[]:=List.drop_of_length_le (by omega)
   rw [h2,List.nil_append,Nat.add_sub_cancel_left]
   exact ih (by simpa using h) (by simpa using hi)
theorem zpS {l:List AtomD} {i:Nat} {x:AtomD} (hi:i < l.length):splice (rowA l) (i*11) x.cells=rowA (l.set i x):=by
 unfold splice
 have hx:x.cells.length=11:=rfl
 rw [hx]
 unfold rowA
 induction l generalizing i with
 |nil=>simp at hi
 |cons y l ih =>
  have hy:y.cells.length=11:=rfl
  cases i with
  |zero =>
   rw [List.set_cons_zero,List.flatMap_cons,List.flatMap_cons,Nat.zero_mul,List.take_zero,List.nil_append,Nat.zero_add,List.drop_append,List.drop_of_length_le (by omega),hy]
   simp
  |succ i =>
   rw [List.set_cons_succ,List.flatMap_cons,List.flatMap_cons,← ih (i:=i) (by simpa using hi)]
   rw [show (i+1)*11=y.cells.length+i*11 by omega,List.take_append,List.take_of_length_le (by omega),Nat.add_sub_cancel_left,show y.cells.length+i*11+11=y.cells.length+(i*11+11) by omega,List.drop_append,List.drop_of_length_le (by omega),Nat.add_sub_cancel_left]
   simp
theorem zca {T:Tab} {t u:TypeId} {A i:Nat} {l:List AtomD} {x:AtomD} {h1:Heap} {bs:List Blk} {w:Nat} {K:Value→Heap→Prop} (q:Holds h1 A (.row (rowA l) u false)) (hs:zay T t=some 11) (hi:i < l.length)
 (hK:∀ h',Holds h' A (.row (rowA (l.set i x)) u false)→Chg A (h1.lay bs w) h'→K undef h'):memE (za8 T t (.pointer (some ⟨A,i*11,none⟩)) x.val (h1.lay bs w)) K:=by
 have hg:(h1.lay bs w).get A=some (.row (rowA l) u false):=q.lay bs w
 have hA:A < (h1.lay bs w).size:=(q.on bs w).lt
 have he:za8 T t (.pointer (some ⟨A,i*11,none⟩)) x.val (h1.lay bs w)=some ((h1.lay bs w).set A (.row (rowA (l.set i x)) u false)):=by
  unfold za8
  simp only [hs,Option.bind_some]
  have h1:x.val.cells.toList=x.cells:=rfl
  have h2:x.val.cells.size=11:=rfl
  have h3:x.cells.length=11:=rfl
  have h4:x.cells.all one=true:=rfl
  rw [if_pos h2,h1]
  unfold zbV
  rw [hg]
  simp only
  rw [if_pos (by simp only [Bool.and_eq_true,decide_eq_true_eq];exact ⟨by rw [zaK,h3];omega,h4⟩),zpS hi]
 rw [he]
 refine hK _ ⟨by rw [Heap.size_set];exact hA,by rw [Heap.get_set _ _ _ _ hA,if_pos rfl]⟩ ⟨by rw [Heap.size_set];exact Nat.le_refl _,fun B hB hne=>by rw [Heap.get_set _ _ _ _ hA,if_neg hne],by rw [Heap.low_set];omega⟩
theorem zaV {u:TypeId} {A i:Nat} {l:List AtomD} {x:AtomD} {ro:Bool} {h1:Heap} {bs:List Blk} {w:Nat} (q:Holds h1 A (.row (rowA l) u ro)) (hx:l[i]? = some x):cutO ((h1.lay bs w).get A) (i*11) 11=some x.val:=by
 have hh:(h1.lay bs w).get A=some (.row (rowA l) u ro):=q.lay bs w
 rw [hh]
 show (cut (rowA l) (i*11) 11).map _=_
 rw [zpR hx]
 rfl
/-! ### Swaps, order -/
def zcK (l:List AtomD) (i j:Nat):List AtomD:=(l.set i (l.getD j noAtomD)).set j (l.getD i noAtomD)
theorem zhF (l:List AtomD) (i j:Nat):(zcK l i j).length=l.length:=by unfold zcK;rw [List.length_set,List.length_set]
theorem zaY {l:List AtomD} {i:Nat} (h:i < l.length):l[i]? = some (l.getD i noAtomD):=by
 rw [List.getD_eq_getElem?_getD,List.getElem?_eq_getElem h]
 rfl
theorem zc0 {l:List AtomD} {i j:Nat} (hi:i < l.length) (hj:j < l.length) (k:Nat):(zcK l i j).getD k noAtomD=if k=j then l.getD i noAtomD else if k=i then l.getD j noAtomD else l.getD k noAtomD:=by
 unfold zcK
 rw [List.getD_eq_getElem?_getD,List.getElem?_set,List.length_set]
 by_cases h1:j=k
 ·subst h1
  rw [if_pos rfl,if_pos hj,if_pos rfl]
  rfl
 ·rw [if_neg h1,if_neg (fun e=>h1 e.symm),List.getElem?_set]
  by_cases h2:i=k
  ·subst h2
   rw [if_pos rfl,if_pos hi,if_pos rfl]
   rfl
  ·rw [if_neg h2,if_neg (fun e=>h2 e.symm),List.getD_eq_getElem?_getD]
theorem zg8 {l:List AtomD} {i j:Nat} (hi:i < l.length) (hj:j < l.length):(zcK l i j).Perm l:=by
 unfold zcK
 have e1:l.getD i noAtomD=l[i]:=by rw [List.getD_eq_getElem?_getD,List.getElem?_eq_getElem hi];rfl
 have e2:l.getD j noAtomD=l[j]:=by rw [List.getD_eq_getElem?_getD,List.getElem?_eq_getElem hj];rfl
 rw [e1,e2]
 exact List.set_set_perm hi hj
theorem zcw (a b:AtomD):cmpD a b = - cmpD b a:=zpl _ _
theorem zhe {a b:AtomD} (h:¬ cmpD a b < 0):cmpD b a≤0:=by
 rw [zcw b a]
 omega
theorem zcR {a b c:AtomD} (h1:cmpD a b≤0) (h2:cmpD b c≤0):cmpD a c≤0:=by
 by_cases e1:cmpD a b=0
 ·have:=zgl e1
  unfold cmpD at *
  rw [this]
  exact h2
 ·by_cases e2:cmpD b c=0
  ·have:=zgl e2
   unfold cmpD at *
   rw [← this]
   exact h1
  ·have h3:cmpD a b < 0:=by omega
   have h4:cmpD b c < 0:=by omega
   exact Int.le_of_lt (zmz h3 h4)
def zaL (l:List AtomD) (a b:Nat):Prop:=∀ k,a < k→k < b→cmpD (l.getD (k - 1) noAtomD) (l.getD k noAtomD)≤0
def zfR (l l':List AtomD) (a b:Nat):Prop:=∀ k,k < a∨b≤k→l'.getD k noAtomD=l.getD k noAtomD
def zsO (l:List AtomD) (a i j:Nat):Prop:=(∀ k,a < k→k≤i→k≠j→cmpD (l.getD (k - 1) noAtomD) (l.getD k noAtomD)≤0)∧(a < j→j < i→cmpD (l.getD (j - 1) noAtomD) (l.getD (j+1) noAtomD)≤0)
theorem zop {l:List AtomD} {a i:Nat} (h:zaL l a i):zsO l a i i:=⟨fun k h1 h2 h3=>h k h1 (by omega),fun _ h=>by omega⟩
theorem zlX {l:List AtomD} {a i j:Nat} (h:zsO l a i j) (hj:j≤i) (he:a < j→cmpD (l.getD (j - 1) noAtomD) (l.getD j noAtomD)≤0):zaL l a (i+1):=by
 intro k h1 h2
 by_cases hkj:k=j
 ·subst hkj
  exact he h1
 ·exact h.1 k h1 (by omega) hkj
theorem zqH {l:List AtomD} {a i j:Nat} (h:zsO l a i j) (haj:a < j) (hji:j≤i) (hi:i < l.length) (hlt:cmpD (l.getD j noAtomD) (l.getD (j - 1) noAtomD) < 0):zsO (zcK l j (j - 1)) a i (j - 1):=by
 have g:=fun k=>zc0 (l:=l) (i:=j) (j:=j - 1) (by omega) (by omega) k
 refine ⟨fun k h1 h2 h3=>?_,fun h1 h2=>?_⟩
 ·rw [g,g]
  by_cases e1:k=j
  ·subst e1
   rw [if_pos rfl,if_neg (by omega),if_pos rfl]
   omega
  ·by_cases e2:k=j+1
   ·subst e2
    rw [if_neg (by omega),if_pos (by omega),if_neg (by omega),if_neg (by omega)]
    have:=h.2 haj (by omega)
    exact this
   ·rw [if_neg (by omega),if_neg (by omega),if_neg (by omega),if_neg (by omega)]
    exact h.1 k h1 h2 (by omega)
 ·rw [g,g]
  rw [if_neg (by omega),if_neg (by omega),if_neg (by omega),if_pos (by omega)]
  exact h.1 (j - 1) h1 (by omega) (by omega)
theorem zmy {l l1:List AtomD} {a i j:Nat} (h:zfR l l1 a (i+1)) (haj:a < j) (hji:j≤i) (hi:i < l1.length):zfR l (zcK l1 j (j - 1)) a (i+1):=by
 intro k hk
 rw [zc0 (by omega) (by omega),if_neg (by omega),if_neg (by omega)]
 exact h k hk
theorem zcr {l l1:List AtomD} (h:∀ x∈l,x.light=true) (p:l1.Perm l):∀ x∈l1,x.light=true:=fun x hx=>h x (p.mem_iff.1 hx)
theorem za4 {l:List AtomD} (h:∀ x∈l,x.light=true) {k:Nat} (hk:k < l.length):(l.getD k noAtomD).light=true:=h _ (List.mem_of_getElem? (zaY hk))
def zhB (l l':List AtomD) (a b n:Nat):Prop:=∀ k,l'.getD k noAtomD=if a≤k∧k < a+n then l.getD (k - a+b) noAtomD else if b≤k∧k < b+n then l.getD (k - b+a) noAtomD else l.getD k noAtomD
theorem zoS (l:List AtomD) (a b:Nat):zhB l l a b 0:=by
 intro k
 rw [if_neg (by omega),if_neg (by omega)]
theorem znP {l l1:List AtomD} {a b n i:Nat} (h:zhB l l1 a b i) (hd:a+n≤b) (hi:i < n) (hb:b+n≤l1.length):zhB l (zcK l1 (a+i) (b+i)) a b (i+1):=by
 intro k
 rw [zc0 (by omega) (by omega),h,h,h]
 repeat' split
 all_goals first|rfl|(exfalso;omega)|(congr 1;omega)
def zod (t cur:List AtomD) (m i j:Nat):Prop:=∀ k,t.getD k noAtomD=if m - i≤k∧k < m+j then (if k < m - i+j then cur.getD (k+i) noAtomD else cur.getD (k - j) noAtomD) else cur.getD k noAtomD
theorem zqp {t cur new:List AtomD} {m i j:Nat} (h:zod t cur m i j) (him:i≤m) (hij:j < i) (hs:zhB cur new (m - i) m j):zod t new m (i - j) j:=by
 intro k
 rw [h k,hs k,hs (k+(i - j)),hs (k - j)]
 repeat' split
 all_goals first|rfl|(exfalso;omega)|(congr 1;omega)
theorem zoK {t cur new:List AtomD} {m i j:Nat} (h:zod t cur m i j) (him:i≤m) (hij:i < j) (hs:zhB cur new (m - i) (m+j - i) i):zod t new m i (j - i):=by
 intro k
 rw [h k,hs k,hs (k+i),hs (k - (j - i))]
 repeat' split
 all_goals first|rfl|(exfalso;omega)|(congr 1;omega)
theorem zsG {t cur new:List AtomD} {m i:Nat} (h:zod t cur m i i) (him:i≤m) (hs:zhB cur new (m - i) m i):∀ k,t.getD k noAtomD=new.getD k noAtomD:=by
 intro k
 rw [h k,hs k]
 repeat' split
 all_goals first|rfl|(exfalso;omega)|(congr 1;omega)
theorem zkJ {l m:List AtomD} (hl:l.length=m.length) (h:∀ k,l.getD k noAtomD=m.getD k noAtomD):l=m:=by
 apply List.ext_getElem hl
 intro k h1 h2
 have:=h k
 rw [List.getD_eq_getElem?_getD,List.getD_eq_getElem?_getD,List.getElem?_eq_getElem h1,List.getElem?_eq_getElem h2] at this
 exact this
def zjK (l:List AtomD) (a m b:Nat):List AtomD:=(List.range l.length).map fun k=>if a≤k∧k < b then (if k < a+(b - m) then l.getD (k+(m - a)) noAtomD else l.getD (k - (b - m)) noAtomD) else l.getD k noAtomD
theorem zhw (l:List AtomD) (a m b:Nat):(zjK l a m b).length=l.length:=by unfold zjK;rw [List.length_map,List.length_range]
theorem zpQ {l:List AtomD} {k:Nat} (h:l.length≤k):l.getD k noAtomD=noAtomD:=by
 rw [List.getD_eq_getElem?_getD,List.getElem?_eq_none h]
 rfl
theorem zgI {l:List AtomD} {a m b:Nat} (hb:b≤l.length) (k:Nat):(zjK l a m b).getD k noAtomD=if a≤k∧k < b then (if k < a+(b - m) then l.getD (k+(m - a)) noAtomD else l.getD (k - (b - m)) noAtomD) else l.getD k noAtomD:=by
 by_cases hk:k < l.length
 ·rw [List.getD_eq_getElem?_getD]
  unfold zjK
  rw [List.getElem?_map,List.getElem?_range hk]
  rfl
 ·rw [zpQ (by rw [zhw];omega),if_neg (by omega),zpQ (by omega)]
theorem znQ {l:List AtomD} {a m b:Nat} (ham:a≤m) (hmb:m≤b) (hb:b≤l.length):zod (zjK l a m b) l m (m - a) (b - m):=by
 intro k
 rw [zgI hb]
 repeat' split
 all_goals first|rfl|(exfalso;omega)|(congr 1;omega)
/-! ### Equal texts keep their order -/
def Stab (l l':List AtomD):Prop:=∀ t:List UInt8,l'.filter (fun x=>zaU x == t)=l.filter (fun x=>zaU x == t)
theorem Stab.refl (l:List AtomD):Stab l l:=fun _=>rfl
theorem Stab.trans {l l1 l2:List AtomD} (x:Stab l l1) (y:Stab l1 l2):Stab l l2:=fun t=>(y t).trans (x t)
theorem zfz {a b:AtomD} (h:cmpD a b < 0):zaU a≠zaU b:=by
 intro e
 unfold cmpD at h
 rw [e,zhR] at h
 omega
theorem zhZ:∀ {l:List AtomD} {k:Nat},k+1 < l.length→zaU (l.getD k noAtomD)≠zaU (l.getD (k+1) noAtomD)→Stab l (zcK l k (k+1))
 | [],k,hk,_=>by simp at hk
 | [x],k,hk,_=>by simp at hk
 |x::y::r,0,_,hne=>by
  intro t
  have e:zcK (x::y::r) 0 1=y::x::r:=rfl
  rw [e]
  have hne':zaU x≠zaU y:=hne
  by_cases hx:zaU x=t
  ·have hy:¬ zaU y=t:=fun h=>hne' (hx.trans h.symm)
   simp [List.filter_cons,hx,hy]
  ·simp [List.filter_cons,hx]
 |x::y::r,k+1,hk,hne=>by
  intro t
  have e:zcK (x::y::r) (k+1) (k+1+1)=x::zcK (y::r) k (k+1):=rfl
  rw [e,List.filter_cons,List.filter_cons,zhZ (l:=y::r) (k:=k) (by simpa using hk) hne t]
theorem zqm {l:List AtomD} {i j:Nat} (hi:i < l.length) (hj:j < l.length):zcK l i j=zcK l j i:=by
 refine zkJ (by rw [zhF,zhF]) (fun k=>?_)
 rw [zc0 hi hj,zc0 hj hi]
 repeat' split
 all_goals first|rfl|(subst_vars;rfl)
theorem zmI {l:List AtomD} {j:Nat} (h0:0 < j) (hj:j < l.length) (hlt:cmpD (l.getD j noAtomD) (l.getD (j - 1) noAtomD) < 0):Stab l (zcK l j (j - 1)):=by
 rw [zqm hj (by omega)]
 have:=zhZ (l:=l) (k:=j - 1) (by omega) (by rw [show j - 1+1=j by omega];exact fun e=>zfz hlt e.symm)
 rwa [show j - 1+1=j by omega] at this
theorem zAB {l:List AtomD} {k:Nat} (hk:k+1 < l.length) (hlt:cmpD (l.getD (k+1) noAtomD) (l.getD k noAtomD) < 0):Stab l (zcK l k (k+1)):=zhZ hk (fun e=>zfz hlt e.symm)
end Go.Am
