/- Strings in order, and the texts of atoms: plain facts about lists of bytes. No condition. -/
import Derived.Lib.Bytealg
import Derived.Test.YtdplfgoifjjniaaGreatDoorG14
set_option linter.unusedSimpArgs false
set_option linter.unusedVariables false
namespace Go.Am
open Go.Lib
abbrev Bs:=List UInt8
theorem YN (a:UInt8):¬ a < a:=by rw [UInt8.lt_iff_toNat_lt];omega
theorem zqF {a b:UInt8} (h1:¬ a < b) (h2:¬ b < a):a=b:=by
 rw [UInt8.lt_iff_toNat_lt] at h1 h2
 exact UInt8.toNat_inj.1 (by omega)
theorem Ms:∀ a:Bs,compareBytes a a=0
 | []=>rfl
 |a::al=>by rw [compareBytes,if_neg (YN a),if_neg (YN a)];exact Ms al
theorem Gs:∀ {a b:Bs},compareBytes a b=0→a=b
 | [],[],_=>rfl
 | [],_::_,h=>by simp [compareBytes] at h
 |_::_,[],h=>by simp [compareBytes] at h
 |a::al,b::bs,h=>by
  rw [compareBytes] at h
  split at h
  ·simp at h
  ·rename_i h1
   split at h
   ·simp at h
   ·rename_i h2
    rw [zqF h1 h2,Gs h]
theorem ZH:∀ a b:Bs,compareBytes a b = - compareBytes b a
 | [],[]=>rfl
 | [],_::_=>rfl
 |_::_,[]=>rfl
 |a::al,b::bs=>by
  rw [compareBytes,compareBytes]
  by_cases h1:a < b
  ·have h2:¬ b < a:=by rw [UInt8.lt_iff_toNat_lt] at h1 ⊢;omega
   rw [if_pos h1,if_neg h2,if_pos h1]
  ·rw [if_neg h1]
   by_cases h2:b < a
   ·rw [if_pos h2,if_pos h2];rfl
   ·rw [if_neg h2,if_neg h2,if_neg h1];exact ZH al bs
theorem zmr:∀ a b:Bs,compareBytes a b = -1∨compareBytes a b=0∨compareBytes a b=1
 | [],[]=>.inr (.inl rfl)
 | [],_::_=>.inl rfl
 |_::_,[]=>.inr (.inr rfl)
 |a::al,b::bs=>by
  rw [compareBytes]
  split
  ·exact .inl rfl
  ·split
   ·exact .inr (.inr rfl)
   ·exact zmr al bs
theorem zms:∀ {a b c:Bs},compareBytes a b < 0→compareBytes b c < 0→compareBytes a c < 0
 | [],[],_,h,_=>by simp [compareBytes] at h
 | [],_::_,[],_,h=>by simp [compareBytes] at h
 | [],_::_,_::_,_,_=>by simp [compareBytes]
 |_::_,[],_,h,_=>by simp [compareBytes] at h
 |_::_,_::_,[],_,h=>by simp [compareBytes] at h
 |a::al,b::bs,c::cs,h,k=>by
  rw [compareBytes] at h k ⊢
  simp only [UInt8.lt_iff_toNat_lt] at h k ⊢
  by_cases h1:a.toNat < b.toNat
  ·by_cases h2:b.toNat < c.toNat
   ·rw [if_pos (by omega)];decide
   ·rw [if_neg h2] at k
    split at k
    ·simp at k
    ·rw [if_pos (by omega)];decide
  ·rw [if_neg h1] at h
   split at h
   ·simp at h
   ·by_cases h2:b.toNat < c.toNat
    ·rw [if_pos (by omega)];decide
    ·rw [if_neg h2] at k
     split at k
     ·simp at k
     ·rw [if_neg (by omega),if_neg (by omega)]
      exact zms h k

/-! ### Words and marks -/
def mV (c:UInt8):Prop:=c.toNat≠32∧c.toNat≠40∧c.toNat≠41∧c.toNat≠44
def Word (s:Bs):Prop:=∀ c∈s,mV c
theorem Em:∀ {s t x y:Bs} {c d:UInt8},Word s→Word t→¬ mV c→¬ mV d→s++c::x=t++d::y→s=t∧c=d∧x=y
 | [],[],x,y,c,d,_,_,_,_,h=>by simp at h;exact ⟨rfl,h.1,h.2⟩
 | [],b::t,x,y,c,d,_,ht,hc,_,h=>by
  simp at h
  exact (hc (by rw [h.1];exact ht b (by simp))).elim
 |a::s,[],x,y,c,d,hs,_,_,hd,h=>by
  simp at h
  exact (hd (by rw [← h.1];exact hs a (by simp))).elim
 |a::s,b::t,x,y,c,d,hs,ht,hc,hd,h=>by
  simp at h
  obtain ⟨h1,h2,h3⟩:=Em (fun q hq=>hs q (by simp [hq])) (fun q hq=>ht q (by simp [hq])) hc hd h.2
  exact ⟨by rw [h.1,h1],h2,h3⟩
theorem Zs:∀ {s t y:Bs} {d:UInt8},Word s→¬ mV d→s≠t++d::y
 | [],t,y,d,_,_,h=>by cases t <;> simp at h
 |a::s,[],y,d,hs,hd,h=>by
  simp at h
  exact hd (by rw [← h.1];exact hs a (by simp))
 |a::s,b::t,y,d,hs,hd,h=>by
  simp at h
  exact Zs (fun q hq=>hs q (by simp [hq])) hd h.2
def GX (names:List Bs):Bs:=match names with
 | []=>[]
 |n::ns=>40::(join (n::ns) [44,32]++[41])
def Na (says pred:Bs) (names:List Bs):Bs:=says++[32,115,97,121,115,32]++pred++GX names
theorem ON (n m:Bs) (ns:List Bs):join (n::m::ns) [44,32]=n++(44::32::join (m::ns) [44,32]):=by
 simp [join,List.intercalate]
theorem zqg:∀ {l m:List Bs},(∀ n∈l,Word n)→(∀ n∈m,Word n)→l≠[]→m≠[]→join l [44,32]++[41]=join m [44,32]++[41]→l=m
 | [],_,_,_,h,_,_=>(h rfl).elim
 |_::_,[],_,_,_,h,_=>(h rfl).elim
 | [a],[b],ha,hb,_,_,h=>by
  rw [join_one,join_one] at h
  rw [(Em (ha a (by simp)) (hb b (by simp)) (by simp [mV]) (by simp [mV]) h).1]
 | [a],b::c::m,ha,hb,_,_,h=>by
  rw [join_one,ON] at h
  simp only [List.append_assoc,List.cons_append] at h
  have:=(Em (ha a (by simp)) (hb b (by simp)) (by simp [mV]) (by simp [mV]) h).2.1
  simp at this
 |a::c::l,[b],ha,hb,_,_,h=>by
  rw [join_one,ON] at h
  simp only [List.append_assoc,List.cons_append] at h
  have:=(Em (ha a (by simp)) (hb b (by simp)) (by simp [mV]) (by simp [mV]) h).2.1
  simp at this
 |a::c::l,b::d::m,ha,hb,_,_,h=>by
  rw [ON,ON] at h
  simp only [List.append_assoc,List.cons_append] at h
  obtain ⟨h1,_,h3⟩:=Em (ha a (by simp)) (hb b (by simp)) (by simp [mV]) (by simp [mV]) h
  simp only [List.cons.injEq,true_and] at h3
  have:=zqg (fun n hn=>ha n (by simp at hn ⊢;exact .inr hn)) (fun n hn=>hb n (by simp at hn ⊢;exact .inr hn)) (by simp) (by simp) h3
  rw [h1,this]
theorem zAQ {s s' p p':Bs} {l l':List Bs} (hs:Word s) (j6:Word s') (hp:Word p) (lx:Word p') (hl:∀ n∈l,Word n) (rO:∀ n∈l',Word n) (h:Na s p l=Na s' p' l'):s=s'∧p=p'∧l=l':=by
 unfold Na at h
 simp only [List.append_assoc,List.cons_append,List.nil_append] at h
 obtain ⟨h1,_,h2⟩:=Em hs j6 (by simp [mV]) (by simp [mV]) h
 simp only [List.cons.injEq,true_and] at h2
 cases l with
 |nil =>
  cases l' with
  |nil=>simp only [GX,List.append_nil] at h2;exact ⟨h1,h2,rfl⟩
  |cons n' ns' =>
   simp only [GX,List.append_nil] at h2
   exact (Zs hp (by simp [mV]) h2).elim
 |cons n ns =>
  cases l' with
  |nil =>
   simp only [GX,List.append_nil] at h2
   exact (Zs lx (by simp [mV]) h2.symm).elim
  |cons n' ns' =>
   simp only [GX] at h2
   obtain ⟨h3,_,h4⟩:=Em hp lx (by simp [mV]) (by simp [mV]) h2
   exact ⟨h1,h3,zqg hl rO (by simp) (by simp) h4⟩
end Go.Am
namespace Go.Am
def aG (l:List ab):List Value:=l.flatMap ab.cells
theorem lR (l:List ab):(aG l).length=l.length*11:=by
 unfold aG
 induction l with
 |nil=>rfl
 |cons x l ih=>rw [List.flatMap_cons,List.length_append,ih,List.length_cons];show 11+_=_;omega
theorem zqx {l:List ab} {i:Nat} {x:ab} (h:l[i]? = some x):cut (aG l) (i*11) 11=some x.cells:=by
 have hi:=(List.getElem?_eq_some_iff.1 h).1
 unfold cut
 rw [if_pos (by rw [lR];omega)]
 congr 1
 unfold aG
 induction l generalizing i with
 |nil=>simp at h
 |cons y l ih =>
  cases i with
  |zero =>
   simp at h
   subst h
   rfl
  |succ i =>
   rw [List.flatMap_cons,show (i+1)*11=y.cells.length+i*11 by show _=11+_;omega,List.drop_append]
   have h2:y.cells.drop (y.cells.length+i*11)=[]:=List.drop_of_length_le (by omega)
   rw [h2,List.nil_append,Nat.add_sub_cancel_left]
   exact ih (by simpa using h) (by simpa using hi)
theorem zqy {l:List ab} {i:Nat} {x:ab} (hi:i < l.length):ay (aG l) (i*11) x.cells=aG (l.set i x):=by
 unfold ay
 have hx:x.cells.length=11:=rfl
 rw [hx]
 unfold aG
 induction l generalizing i with
 |nil=>simp at hi
 |cons y l ih =>
  have hy:y.cells.length=11:=rfl
  cases i with
  |zero =>
   rw [List.set_cons_zero,List.flatMap_cons,List.flatMap_cons,Nat.zero_mul,List.take_zero,List.nil_append,Nat.zero_add,List.drop_append,List.drop_of_length_le (by omega),hy]
   simp
  |succ i =>
   rw [List.set_cons_succ,List.flatMap_cons,List.flatMap_cons,← ih (i:=i) (by simpa using hi)]
   rw [show (i+1)*11=y.cells.length+i*11 by omega,List.take_append,List.take_of_length_le (by omega),Nat.add_sub_cancel_left,show y.cells.length+i*11+11=y.cells.length+(i*11+11) by omega,List.drop_append,List.drop_of_length_le (by omega),Nat.add_sub_cancel_left]
   simp
theorem zJ {T:bD} {t u:TypeId} {A i:Nat} {l:List ab} {x:ab} {h1:Heap} {bs:List bh} {w:Nat} {K:Value→Heap→Prop} (q:Holds h1 A (.row (aG l) u false)) (hs:bO T t=some 11) (hi:i < l.length)
 (hK:∀ h',Holds h' A (.row (aG (l.set i x)) u false)→fK A (h1.lay bs w) h'→K undef h'):gv (gA T t (.pointer (some ⟨A,i*11,none⟩)) x.val (h1.lay bs w)) K:=by
 have hg:(h1.lay bs w).get A=some (.row (aG l) u false):=q.lay bs w
 have hA:A < (h1.lay bs w).size:=(q.on bs w).lt
 have he:gA T t (.pointer (some ⟨A,i*11,none⟩)) x.val (h1.lay bs w)=some ((h1.lay bs w).set A (.row (aG (l.set i x)) u false)):=by
  unfold gA
  simp only [hs,Option.bind_some]
  have h1:x.val.cells.toList=x.cells:=rfl
  have h2:x.val.cells.size=11:=rfl
  have h3:x.cells.length=11:=rfl
  have h4:x.cells.all one=true:=rfl
  rw [if_pos h2,h1]
  unfold kW
  rw [hg]
  simp only
  rw [if_pos (by simp only [Bool.and_eq_true,decide_eq_true_eq];exact ⟨by rw [lR,h3];omega,h4⟩),zqy hi]
 rw [he]
 refine hK _ ⟨by rw [Heap.size_set];exact hA,by rw [Heap.aC _ _ _ _ hA,if_pos rfl]⟩ ⟨by rw [Heap.size_set];exact Nat.le_refl _,fun B hB aO=>by rw [Heap.aC _ _ _ _ hA,if_neg aO],by rw [Heap.bX];omega⟩
theorem mq {u:TypeId} {A i:Nat} {l:List ab} {x:ab} {ro:Bool} {h1:Heap} {bs:List bh} {w:Nat} (q:Holds h1 A (.row (aG l) u ro)) (hx:l[i]? = some x):kx ((h1.lay bs w).get A) (i*11) 11=some x.val:=by
 have hh:(h1.lay bs w).get A=some (.row (aG l) u ro):=q.lay bs w
 rw [hh]
 show (cut (aG l) (i*11) 11).map _=_
 rw [zqx hx]
 rfl
/-! ### Swaps, order -/
def jM (l:List ab) (i j:Nat):List ab:=(l.set i (l.getD j ah)).set j (l.getD i ah)
theorem zhQ (l:List ab) (i j:Nat):(jM l i j).length=l.length:=by unfold jM;rw [List.length_set,List.length_set]
theorem iP {l:List ab} {i:Nat} (h:i < l.length):l[i]? = some (l.getD i ah):=by
 rw [List.getD_eq_getElem?_getD,List.getElem?_eq_getElem h]
 rfl
theorem Bt {l:List ab} {i j:Nat} (hi:i < l.length) (hj:j < l.length) (k:Nat):(jM l i j).getD k ah=if k=j then l.getD i ah else if k=i then l.getD j ah else l.getD k ah:=by
 unfold jM
 rw [List.getD_eq_getElem?_getD,List.getElem?_set,List.length_set]
 by_cases h1:j=k
 ·subst h1
  rw [if_pos rfl,if_pos hj,if_pos rfl]
  rfl
 ·rw [if_neg h1,if_neg (fun e=>h1 e.symm),List.getElem?_set]
  by_cases h2:i=k
  ·subst h2
   rw [if_pos rfl,if_pos hi,if_pos rfl]
   rfl
  ·rw [if_neg h2,if_neg (fun e=>h2 e.symm),List.getD_eq_getElem?_getD]
theorem Y6 {l:List ab} {i j:Nat} (hi:i < l.length) (hj:j < l.length):(jM l i j).Perm l:=by
 unfold jM
 have e1:l.getD i ah=l[i]:=by rw [List.getD_eq_getElem?_getD,List.getElem?_eq_getElem hi];rfl
 have e2:l.getD j ah=l[j]:=by rw [List.getD_eq_getElem?_getD,List.getElem?_eq_getElem hj];rfl
 rw [e1,e2]
 exact List.set_set_perm hi hj
theorem zI (a b:ab):aM a b = - aM b a:=ZH _ _
theorem Gt {a b:ab} (h:¬ aM a b < 0):aM b a≤0:=by
 rw [zI b a]
 omega
theorem En {a b c:ab} (h1:aM a b≤0) (h2:aM b c≤0):aM a c≤0:=by
 by_cases e1:aM a b=0
 ·have:=Gs e1
  unfold aM at *
  rw [this]
  exact h2
 ·by_cases e2:aM b c=0
  ·have:=Gs e2
   unfold aM at *
   rw [← this]
   exact h1
  ·have h3:aM a b < 0:=by omega
   have h4:aM b c < 0:=by omega
   exact Int.le_of_lt (zms h3 h4)
def gj (l:List ab) (a b:Nat):Prop:=∀ k,a < k→k < b→aM (l.getD (k - 1) ah) (l.getD k ah)≤0
def EB (l l':List ab) (a b:Nat):Prop:=∀ k,k < a∨b≤k→l'.getD k ah=l.getD k ah
def M4 (l:List ab) (a i j:Nat):Prop:=(∀ k,a < k→k≤i→k≠j→aM (l.getD (k - 1) ah) (l.getD k ah)≤0)∧(a < j→j < i→aM (l.getD (j - 1) ah) (l.getD (j+1) ah)≤0)
theorem zpr {l:List ab} {a i:Nat} (h:gj l a i):M4 l a i i:=⟨fun k h1 h2 h3=>h k h1 (by omega),fun _ h=>by omega⟩
theorem znM {l:List ab} {a i j:Nat} (h:M4 l a i j) (hj:j≤i) (he:a < j→aM (l.getD (j - 1) ah) (l.getD j ah)≤0):gj l a (i+1):=by
 intro k h1 h2
 by_cases hkj:k=j
 ·subst hkj
  exact he h1
 ·exact h.1 k h1 (by omega) hkj
theorem zsc {l:List ab} {a i j:Nat} (h:M4 l a i j) (Vw:a < j) (jN:j≤i) (hi:i < l.length) (aS:aM (l.getD j ah) (l.getD (j - 1) ah) < 0):M4 (jM l j (j - 1)) a i (j - 1):=by
 have g:=fun k=>Bt (l:=l) (i:=j) (j:=j - 1) (by omega) (by omega) k
 refine ⟨fun k h1 h2 h3=>?_,fun h1 h2=>?_⟩
 ·rw [g,g]
  by_cases e1:k=j
  ·subst e1
   rw [if_pos rfl,if_neg (by omega),if_pos rfl]
   omega
  ·by_cases e2:k=j+1
   ·subst e2
    rw [if_neg (by omega),if_pos (by omega),if_neg (by omega),if_neg (by omega)]
    have:=h.2 Vw (by omega)
    exact this
   ·rw [if_neg (by omega),if_neg (by omega),if_neg (by omega),if_neg (by omega)]
    exact h.1 k h1 h2 (by omega)
 ·rw [g,g]
  rw [if_neg (by omega),if_neg (by omega),if_neg (by omega),if_pos (by omega)]
  exact h.1 (j - 1) h1 (by omega) (by omega)
theorem znJ {l l1:List ab} {a i j:Nat} (h:EB l l1 a (i+1)) (Vw:a < j) (jN:j≤i) (hi:i < l1.length):EB l (jM l1 j (j - 1)) a (i+1):=by
 intro k hk
 rw [Bt (by omega) (by omega),if_neg (by omega),if_neg (by omega)]
 exact h k hk
theorem Bm {l l1:List ab} (h:∀ x∈l,x.ba=true) (p:l1.Perm l):∀ x∈l1,x.ba=true:=fun x hx=>h x (p.mem_iff.1 hx)
theorem n5 {l:List ab} (h:∀ x∈l,x.ba=true) {k:Nat} (hk:k < l.length):(l.getD k ah).ba=true:=h _ (List.mem_of_getElem? (iP hk))
def BI (l l':List ab) (a b n:Nat):Prop:=∀ k,l'.getD k ah=if a≤k∧k < a+n then l.getD (k - a+b) ah else if b≤k∧k < b+n then l.getD (k - b+a) ah else l.getD k ah
theorem zpC (l:List ab) (a b:Nat):BI l l a b 0:=by
 intro k
 rw [if_neg (by omega),if_neg (by omega)]
theorem zpB {l l1:List ab} {a b n i:Nat} (h:BI l l1 a b i) (hd:a+n≤b) (hi:i < n) (hb:b+n≤l1.length):BI l (jM l1 (a+i) (b+i)) a b (i+1):=by
 intro k
 rw [Bt (by omega) (by omega),h,h,h]
 repeat' split
 all_goals first|rfl|(exfalso;omega)|(congr 1;omega)
def E8 (t cur:List ab) (m i j:Nat):Prop:=∀ k,t.getD k ah=if m - i≤k∧k < m+j then (if k < m - i+j then cur.getD (k+i) ah else cur.getD (k - j) ah) else cur.getD k ah
theorem zsu {t cur new:List ab} {m i j:Nat} (h:E8 t cur m i j) (rM:i≤m) (dh:j < i) (hs:BI cur new (m - i) m j):E8 t new m (i - j) j:=by
 intro k
 rw [h k,hs k,hs (k+(i - j)),hs (k - j)]
 repeat' split
 all_goals first|rfl|(exfalso;omega)|(congr 1;omega)
theorem zpI {t cur new:List ab} {m i j:Nat} (h:E8 t cur m i j) (rM:i≤m) (dh:i < j) (hs:BI cur new (m - i) (m+j - i) i):E8 t new m i (j - i):=by
 intro k
 rw [h k,hs k,hs (k+i),hs (k - (j - i))]
 repeat' split
 all_goals first|rfl|(exfalso;omega)|(congr 1;omega)
theorem zvW {t cur new:List ab} {m i:Nat} (h:E8 t cur m i i) (rM:i≤m) (hs:BI cur new (m - i) m i):∀ k,t.getD k ah=new.getD k ah:=by
 intro k
 rw [h k,hs k]
 repeat' split
 all_goals first|rfl|(exfalso;omega)|(congr 1;omega)
theorem ZN {l m:List ab} (hl:l.length=m.length) (h:∀ k,l.getD k ah=m.getD k ah):l=m:=by
 apply List.ext_getElem hl
 intro k h1 h2
 have:=h k
 rw [List.getD_eq_getElem?_getD,List.getD_eq_getElem?_getD,List.getElem?_eq_getElem h1,List.getElem?_eq_getElem h2] at this
 exact this
def wC (l:List ab) (a m b:Nat):List ab:=(List.range l.length).map fun k=>if a≤k∧k < b then (if k < a+(b - m) then l.getD (k+(m - a)) ah else l.getD (k - (b - m)) ah) else l.getD k ah
theorem zhR (l:List ab) (a m b:Nat):(wC l a m b).length=l.length:=by unfold wC;rw [List.length_map,List.length_range]
theorem zqd {l:List ab} {k:Nat} (h:l.length≤k):l.getD k ah=ah:=by
 rw [List.getD_eq_getElem?_getD,List.getElem?_eq_none h]
 rfl
theorem O3 {l:List ab} {a m b:Nat} (hb:b≤l.length) (k:Nat):(wC l a m b).getD k ah=if a≤k∧k < b then (if k < a+(b - m) then l.getD (k+(m - a)) ah else l.getD (k - (b - m)) ah) else l.getD k ah:=by
 by_cases hk:k < l.length
 ·rw [List.getD_eq_getElem?_getD]
  unfold wC
  rw [List.getElem?_map,List.getElem?_range hk]
  rfl
 ·rw [zqd (by rw [zhR];omega),if_neg (by omega),zqd (by omega)]
theorem zpJ {l:List ab} {a m b:Nat} (sD:a≤m) (xo:m≤b) (hb:b≤l.length):E8 (wC l a m b) l m (m - a) (b - m):=by
 intro k
 rw [O3 hb]
 repeat' split
 all_goals first|rfl|(exfalso;omega)|(congr 1;omega)
/-! ### Equal texts keep their order -/
def eE (l l':List ab):Prop:=∀ t:List UInt8,l'.filter (fun x=>cO x == t)=l.filter (fun x=>cO x == t)
theorem eE.refl (l:List ab):eE l l:=fun _=>rfl
theorem eE.trans {l l1 l2:List ab} (x:eE l l1) (y:eE l1 l2):eE l l2:=fun t=>(y t).trans (x t)
theorem Gq {a b:ab} (h:aM a b < 0):cO a≠cO b:=by
 intro e
 unfold aM at h
 rw [e,Ms] at h
 omega
theorem Zl:∀ {l:List ab} {k:Nat},k+1 < l.length→cO (l.getD k ah)≠cO (l.getD (k+1) ah)→eE l (jM l k (k+1))
 | [],k,hk,_=>by simp at hk
 | [x],k,hk,_=>by simp at hk
 |x::y::r,0,_,aO=>by
  intro t
  have e:jM (x::y::r) 0 1=y::x::r:=rfl
  rw [e]
  have Wq:cO x≠cO y:=aO
  by_cases hx:cO x=t
  ·have hy:¬ cO y=t:=fun h=>Wq (hx.trans h.symm)
   simp [List.filter_cons,hx,hy]
  ·simp [List.filter_cons,hx]
 |x::y::r,k+1,hk,aO=>by
  intro t
  have e:jM (x::y::r) (k+1) (k+1+1)=x::jM (y::r) k (k+1):=rfl
  rw [e,List.filter_cons,List.filter_cons,Zl (l:=y::r) (k:=k) (by simpa using hk) aO t]
theorem zsj {l:List ab} {i j:Nat} (hi:i < l.length) (hj:j < l.length):jM l i j=jM l j i:=by
 refine ZN (by rw [zhQ,zhQ]) (fun k=>?_)
 rw [Bt hi hj,Bt hj hi]
 repeat' split
 all_goals first|rfl|(subst_vars;rfl)
theorem znS {l:List ab} {j:Nat} (h0:0 < j) (hj:j < l.length) (aS:aM (l.getD j ah) (l.getD (j - 1) ah) < 0):eE l (jM l j (j - 1)):=by
 rw [zsj hj (by omega)]
 have:=Zl (l:=l) (k:=j - 1) (by omega) (by rw [show j - 1+1=j by omega];exact fun e=>Gq aS e.symm)
 rwa [show j - 1+1=j by omega] at this
theorem zC6 {l:List ab} {k:Nat} (hk:k+1 < l.length) (aS:aM (l.getD (k+1) ah) (l.getD k ah) < 0):eE l (jM l k (k+1)):=Zl hk (fun e=>Gq aS e.symm)
end Go.Am
