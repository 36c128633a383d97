/- Strings in order, and the texts of atoms: plain facts about lists of bytes. No condition. -/
import Derived.Lib.Bytealg
import Derived.Lib.Join
import Derived.Test.YtemapihoobmonaaGreatDoorG14
import Derived.Test.YtemapihoobmonaaGreatDoorG13
namespace Go.Am
open Go.Lib
abbrev Bs:=List UInt8
theorem zhO (a:UInt8):¬ a < a:=by rw [UInt8.lt_iff_toNat_lt]; omega
theorem zyg {a b:UInt8} (h1:¬ a < b) (h2:¬ b < a):a=b:=by
  rw [UInt8.lt_iff_toNat_lt] at h1 h2
  exact UInt8.toNat_inj.1 (by omega)
theorem zms:∀ a:Bs,compareBytes a a=0
  | []=>rfl
  | a::al=>by rw [compareBytes,if_neg (zhO a),if_neg (zhO a)]; exact zms al
theorem ziw:∀ {a b:Bs},compareBytes a b=0→a=b
  | [],[],_=>rfl
  | [],_::_,h=>by simp [compareBytes] at h
  | _::_,[],h=>by simp [compareBytes] at h
  | a::al,b::bs,h=>by
    rw [compareBytes] at h
    split at h
    · simp at h
    · rename_i h1
      split at h
      · simp at h
      · rename_i h2
        rw [zyg h1 h2,ziw h]
theorem zqC:∀ a b:Bs,compareBytes a b = - compareBytes b a
  | [],[]=>rfl
  | [],_::_=>rfl
  | _::_,[]=>rfl
  | a::al,b::bs=>by
    rw [compareBytes,compareBytes]
    by_cases h1:a < b
    · have h2:¬ b < a:=by rw [UInt8.lt_iff_toNat_lt] at h1 ⊢; omega
      rw [if_pos h1,if_neg h2,if_pos h1]
    · rw [if_neg h1]
      by_cases h2:b < a
      · rw [if_pos h2,if_pos h2]; rfl
      · rw [if_neg h2,if_neg h2,if_neg h1]; exact zqC al bs
theorem znY:∀ {a b c:Bs},compareBytes a b < 0→compareBytes b c < 0→compareBytes a c < 0
  | [],[],_,h,_=>by simp [compareBytes] at h
  | [],_::_,[],_,h=>by simp [compareBytes] at h
  | [],_::_,_::_,_,_=>by simp [compareBytes]
  | _::_,[],_,h,_=>by simp [compareBytes] at h
  | _::_,_::_,[],_,h=>by simp [compareBytes] at h
  | a::al,b::bs,c::cs,h,k=>by
    rw [compareBytes] at h k ⊢
    simp only [UInt8.lt_iff_toNat_lt] at h k ⊢
    by_cases h1:a.toNat < b.toNat
    · by_cases h2:b.toNat < c.toNat
      · rw [if_pos (by omega)]; decide
      · rw [if_neg h2] at k
        split at k
        · simp at k
        · rw [if_pos (by omega)]; decide
    · rw [if_neg h1] at h
      split at h
      · simp at h
      · by_cases h2:b.toNat < c.toNat
        · rw [if_pos (by omega)]; decide
        · rw [if_neg h2] at k
          split at k
          · simp at k
          · rw [if_neg (by omega),if_neg (by omega)]
            exact znY h k

/-! ### Words and marks -/
def zeb (c:UInt8):Prop:=c.toNat≠32∧c.toNat≠40∧c.toNat≠41∧c.toNat≠44
def Word (s:Bs):Prop:=∀ c∈s,zeb c
theorem zcN:∀ {s t x y:Bs} {c d:UInt8},Word s→Word t→¬ zeb c→¬ zeb d→s++c::x=t++d::y→s=t∧c=d∧x=y
  | [],[],x,y,c,d,_,_,_,_,h=>by simp at h; exact ⟨rfl,h.1,h.2⟩
  | [],b::t,x,y,c,d,_,ht,hc,_,h=>by
    simp at h
    exact (hc (by rw [h.1]; exact ht b (by simp))).elim
  | a::s,[],x,y,c,d,hs,_,_,hd,h=>by
    simp at h
    exact (hd (by rw [← h.1]; exact hs a (by simp))).elim
  | a::s,b::t,x,y,c,d,hs,ht,hc,hd,h=>by
    simp at h
    obtain ⟨h1,h2,h3⟩:=zcN (fun q hq=>hs q (by simp [hq])) (fun q hq=>ht q (by simp [hq])) hc hd h.2
    exact ⟨by rw [h.1,h1],h2,h3⟩
theorem zl7:∀ {s t y:Bs} {d:UInt8},Word s→¬ zeb d→s≠t++d::y
  | [],t,y,d,_,_,h=>by cases t <;> simp at h
  | a::s,[],y,d,hs,hd,h=>by
    simp at h
    exact hd (by rw [← h.1]; exact hs a (by simp))
  | a::s,b::t,y,d,hs,hd,h=>by
    simp at h
    exact zl7 (fun q hq=>hs q (by simp [hq])) hd h.2
def zrV (names:List Bs):Bs:=match names with
  | []=>[]
  | n::ns=>40::(join (n::ns) [44,32]++[41])
def zvN (says pred:Bs) (names:List Bs):Bs:=says++[32,115,97,121,115,32]++pred++zrV names
theorem zfr (n m:Bs) (ns:List Bs):join (n::m::ns) [44,32]=n++(44::32::join (m::ns) [44,32]):=by
  simp [join,List.intercalate]
theorem zrb:∀ {l m:List Bs},(∀ n∈l,Word n)→(∀ n∈m,Word n)→l≠[]→m≠[]→join l [44,32]++[41]=join m [44,32]++[41]→l=m
  | [],_,_,_,h,_,_=>(h rfl).elim
  | _::_,[],_,_,_,h,_=>(h rfl).elim
  | [a],[b],ha,hb,_,_,h=>by
    rw [join_one,join_one] at h
    rw [(zcN (ha a (by simp)) (hb b (by simp)) (by simp [zeb]) (by simp [zeb]) h).1]
  | [a],b::c::m,ha,hb,_,_,h=>by
    rw [join_one,zfr] at h
    simp only [List.append_assoc,List.cons_append] at h
    have:=(zcN (ha a (by simp)) (hb b (by simp)) (by simp [zeb]) (by simp [zeb]) h).2.1
    simp at this
  | a::c::l,[b],ha,hb,_,_,h=>by
    rw [join_one,zfr] at h
    simp only [List.append_assoc,List.cons_append] at h
    have:=(zcN (ha a (by simp)) (hb b (by simp)) (by simp [zeb]) (by simp [zeb]) h).2.1
    simp at this
  | a::c::l,b::d::m,ha,hb,_,_,h=>by
    rw [zfr,zfr] at h
    simp only [List.append_assoc,List.cons_append] at h
    obtain ⟨h1,_,h3⟩:=zcN (ha a (by simp)) (hb b (by simp)) (by simp [zeb]) (by simp [zeb]) h
    simp only [List.cons.injEq,true_and] at h3
    have:=zrb (fun n hn=>ha n (by simp at hn ⊢; exact .inr hn)) (fun n hn=>hb n (by simp at hn ⊢; exact .inr hn)) (by simp) (by simp) h3
    rw [h1,this]
theorem zw8 {s s' p p':Bs} {l l':List Bs} (hs:Word s) (hs':Word s') (hp:Word p) (hp':Word p') (hl:∀ n∈l,Word n) (hl':∀ n∈l',Word n) (h:zvN s p l=zvN s' p' l'):s=s'∧p=p'∧l=l':=by
  unfold zvN at h
  simp only [List.append_assoc,List.cons_append,List.nil_append] at h
  obtain ⟨h1,_,h2⟩:=zcN hs hs' (by simp [zeb]) (by simp [zeb]) h
  simp only [List.cons.injEq,true_and] at h2
  cases l with
  | nil =>
    cases l' with
    | nil=>simp only [zrV,List.append_nil] at h2; exact ⟨h1,h2,rfl⟩
    | cons n' ns' =>
      simp only [zrV,List.append_nil] at h2
      exact (zl7 hp (by simp [zeb]) h2).elim
  | cons n ns =>
    cases l' with
    | nil =>
      simp only [zrV,List.append_nil] at h2
      exact (zl7 hp' (by simp [zeb]) h2.symm).elim
    | cons n' ns' =>
      simp only [zrV] at h2
      obtain ⟨h3,_,h4⟩:=zcN hp hp' (by simp [zeb]) (by simp [zeb]) h2
      exact ⟨h1,h3,zrb hl hl' (by simp) (by simp) h4⟩
end Go.Am
namespace Go.Am
set_option linter.unusedVariables false
set_option linter.unusedSimpArgs false
def rowA (l:List AtomD):List Value:=l.flatMap AtomD.cells
theorem zpE (l:List AtomD):(rowA l).length=l.length*11:=by
  unfold rowA
  induction l with
  | nil=>rfl
  | cons x l ih=>rw [List.flatMap_cons,List.length_append,ih,List.length_cons]; show 11+_=_; omega
theorem zxW {l:List AtomD} {i:Nat} {x:AtomD} (h:l[i]? = some x):cut (rowA l) (i*11) 11=some x.cells:=by
  have hi:=(List.getElem?_eq_some_iff.1 h).1
  unfold cut
  rw [if_pos (by rw [zpE]; omega)]
  congr 1
  unfold rowA
  induction l generalizing i with
  | nil=>simp at h
  | cons y l ih =>
    cases i with
    | zero =>
      simp at h
      subst h
      rfl
    | succ i =>
      rw [List.flatMap_cons,show (i+1)*11=y.cells.length+i*11 by show _=11+_; omega,List.drop_append]
      have h2:y.cells.drop (y.cells.length+i*11)=[]:=List.drop_of_length_le (by omega)
      rw [h2,List.nil_append,Nat.add_sub_cancel_left]
      exact ih (by simpa using h) (by simpa using hi)
/-! ### Swaps, order -/
def zrF (l:List AtomD) (i j:Nat):List AtomD:=(l.set i (l.getD j noAtomD)).set j (l.getD i noAtomD)
theorem zAt {l:List AtomD} {i:Nat} (h:i < l.length):l[i]? = some (l.getD i noAtomD):=by
  rw [List.getD_eq_getElem?_getD,List.getElem?_eq_getElem h]
  rfl
theorem zwo {l:List AtomD} {i j:Nat} (hi:i < l.length) (hj:j < l.length) (k:Nat):(zrF l i j).getD k noAtomD=if k=j then l.getD i noAtomD else if k=i then l.getD j noAtomD else l.getD k noAtomD:=by
  unfold zrF
  rw [List.getD_eq_getElem?_getD,List.getElem?_set,List.length_set]
  by_cases h1:j=k
  · subst h1
    rw [if_pos rfl,if_pos hj,if_pos rfl]
    rfl
  · rw [if_neg h1,if_neg (fun e=>h1 e.symm),List.getElem?_set]
    by_cases h2:i=k
    · subst h2
      rw [if_pos rfl,if_pos hi,if_pos rfl]
      rfl
    · rw [if_neg h2,if_neg (fun e=>h2 e.symm),List.getD_eq_getElem?_getD]
theorem zs5 {l:List AtomD} {i j:Nat} (hi:i < l.length) (hj:j < l.length):(zrF l i j).Perm l:=by
  unfold zrF
  have e1:l.getD i noAtomD=l[i]:=by rw [List.getD_eq_getElem?_getD,List.getElem?_eq_getElem hi]; rfl
  have e2:l.getD j noAtomD=l[j]:=by rw [List.getD_eq_getElem?_getD,List.getElem?_eq_getElem hj]; rfl
  rw [e1,e2]
  exact List.set_set_perm hi hj
theorem zgx (a b:AtomD):cmpD a b = - cmpD b a:=zqC _ _
theorem zAa {a b:AtomD} (h:¬ cmpD a b < 0):cmpD b a≤0:=by
  rw [zgx b a]
  omega
theorem zr0 {a b c:AtomD} (h1:cmpD a b≤0) (h2:cmpD b c≤0):cmpD a c≤0:=by
  by_cases e1:cmpD a b=0
  · have:=ziw e1
    unfold cmpD at *
    rw [this]
    exact h2
  · by_cases e2:cmpD b c=0
    · have:=ziw e2
      unfold cmpD at *
      rw [← this]
      exact h1
    · have h3:cmpD a b < 0:=by omega
      have h4:cmpD b c < 0:=by omega
      exact Int.le_of_lt (znY h3 h4)
def zvV (l:List AtomD) (a b:Nat):Prop:=∀ k,a < k→k < b→cmpD (l.getD (k - 1) noAtomD) (l.getD k noAtomD)≤0
def zy5 (l l':List AtomD) (a b:Nat):Prop:=∀ k,k < a∨b≤k→l'.getD k noAtomD=l.getD k noAtomD
/-! ### Equal texts keep their order -/
def Stab (l l':List AtomD):Prop:=∀ t:List UInt8,l'.filter (fun x=>zd3 x == t)=l.filter (fun x=>zd3 x == t)
theorem Stab.refl (l:List AtomD):Stab l l:=fun _=>rfl
theorem Stab.trans {l l1 l2:List AtomD} (x:Stab l l1) (y:Stab l1 l2):Stab l l2:=fun t=>(y t).trans (x t)
end Go.Am
namespace Go.Am
set_option linter.unusedVariables false
set_option linter.unusedSimpArgs false
theorem zeT (a:AtomD):cmpD a a=0:=zms _
theorem zlc {a b c:AtomD} (h1:cmpD a b < 0) (h2:cmpD b c≤0):cmpD a c < 0:=by
  by_cases h:cmpD a c < 0
  · exact h
  · have h3:=zr0 h2 (zAa h)
    have h4:=zgx a b
    omega
structure Mv (l l':List AtomD) (a b:Nat):Prop where
  perm:l'.Perm l
  out:zy5 l l' a b
  wit:∀ i,a≤i→i < b→∃ j,a≤j∧j < b∧l'.getD i noAtomD=l.getD j noAtomD
  stab:Stab l l'
theorem Mv.refl (l:List AtomD) (a b:Nat):Mv l l a b:=⟨List.Perm.refl _,fun _ _=>rfl,fun i h1 h2=>⟨i,h1,h2,rfl⟩,Stab.refl l⟩
theorem Mv.trans {l l1 l2:List AtomD} {a b:Nat} (x:Mv l l1 a b) (y:Mv l1 l2 a b):Mv l l2 a b:=⟨y.perm.trans x.perm,fun k hk=>(y.out k hk).trans (x.out k hk),fun i h1 h2=>by
  obtain ⟨j,g1,g2,g3⟩:=y.wit i h1 h2
  obtain ⟨k,f1,f2,f3⟩:=x.wit j g1 g2
  exact ⟨k,f1,f2,g3.trans f3⟩,x.stab.trans y.stab⟩
theorem Mv.widen {l l':List AtomD} {a b a' b':Nat} (x:Mv l l' a b) (ha:a'≤a) (hb:b≤b'):Mv l l' a' b':=⟨x.perm,fun k hk=>x.out k (by omega),fun i h1 h2=>by
  by_cases h:a≤i∧i < b
  · obtain ⟨j,g1,g2,g3⟩:=x.wit i h.1 h.2
    exact ⟨j,by omega,by omega,g3⟩
  · exact ⟨i,h1,h2,x.out i (by omega)⟩,x.stab⟩
theorem Mv.swap {l:List AtomD} {a b i j:Nat} (hi:a≤i∧i < b) (hj:a≤j∧j < b) (hb:b≤l.length) (hs:Stab l (zrF l i j)):Mv l (zrF l i j) a b:=by
  have g:=fun k=>zwo (l:=l) (i:=i) (j:=j) (by omega) (by omega) k
  refine ⟨zs5 (by omega) (by omega),fun k hk=>?_,fun k h1 h2=>?_,hs⟩
  · rw [g,if_neg (by omega),if_neg (by omega)]
  · rw [g]
    split
    · exact ⟨i,by omega,by omega,rfl⟩
    · split
      · exact ⟨j,by omega,by omega,rfl⟩
      · exact ⟨k,h1,h2,rfl⟩
structure SplitS (l:List AtomD) (a m b mid s:Nat):Prop where
  lo:a≤s
  hi:s≤m
  him:s≤mid
  ge:m≤mid+m - s
  le:mid+m - s≤b
  cl:s=a∨mid+m - s=b∨cmpD (l.getD (s - 1) noAtomD) (l.getD (mid+m - s) noAtomD)≤0
  cr:s=m∨s=mid∨cmpD (l.getD (mid+m - 1 - s) noAtomD) (l.getD s noAtomD) < 0
structure SymInv (l:List AtomD) (a m b mid s r:Nat):Prop where
  sr:s≤r
  le1:m≤mid→a≤s∧r≤m
  le2:mid < m→mid+m - b≤s∧r≤mid
  cl:(s=a∧m≤mid)∨(mid < m∧s=mid+m - b)∨cmpD (l.getD (s - 1) noAtomD) (l.getD (mid+m - s) noAtomD)≤0
  cr:(r=m∧m≤mid)∨(mid < m∧r=mid)∨cmpD (l.getD (mid+m - 1 - r) noAtomD) (l.getD r noAtomD) < 0
end Go.Am
namespace Go.Am
set_option linter.unusedVariables false
set_option linter.unusedSimpArgs false
theorem zgX {P:Program} {T:Tab} {t:TypeId} {k:IntKind} {a b:Int}:binA P T .mul t (.int k a) (.int k b)=some (.int k (k.wrap (a*b))):=by
  have h1:((T.desc t).bind fun d=>zlD d (.int k a) (.int k b))=none:=by
    cases T.desc t with
    | none=>rfl
    | some d=>cases d <;> rfl
  have h2:zaF P (binOp .mul t (.int k a) (.int k b))=some (.int k (k.wrap (a*b))):=by
    simp [binOp,Op.intArith,zco]
  unfold binA
  have hf:zb5 .mul (.int k a) (.int k b)=none:=rfl
  rw [hf]
  simp [h1,h2]
  exact ⟨⟨rfl,rfl⟩,rfl⟩
theorem zpO {w s a:Nat} (h1:s % w=0) (h2:a % w=0) (h:s < a):s+w≤a:=by
  obtain ⟨i,rfl⟩:=Nat.dvd_of_mod_eq_zero h1
  obtain ⟨j,rfl⟩:=Nat.dvd_of_mod_eq_zero h2
  have hij:i < j:=Nat.lt_of_mul_lt_mul_left h
  rw [show w*i+w=w*(i+1) from (Nat.mul_succ w i).symm]
  exact Nat.mul_le_mul_left w hij
def Bl (l:List AtomD) (w n a:Nat):Prop:=∀ s,s % w=0→s < a→zvV l s (min (s+w) n)
structure Dbl (l:List AtomD) (w n a:Nat):Prop where
  lo:Bl l (2*w) n a
  hi:∀ s,s % w=0→a≤s→s < n→zvV l s (min (s+w) n)
theorem zuA {w a:Nat} (h:a % (2*w)=0):a % w=0∧(a+w) % w=0:=by
  obtain ⟨i,rfl⟩:=Nat.dvd_of_mod_eq_zero h
  have h1:2*w*i % w=0:=by rw [show 2*w*i=w*(2*i) by rw [Nat.mul_comm 2 w,Nat.mul_assoc]]; exact Nat.mul_mod_right _ _
  exact ⟨h1,by rw [Nat.add_mod_right]; exact h1⟩
end Go.Am
namespace Go.Am
set_option linter.unusedVariables false
set_option linter.unusedSimpArgs false
theorem cmpD_zero {a b:AtomD}:cmpD a b=0↔zd3 a=zd3 b:=⟨fun h=>ziw h,fun h=>by unfold cmpD; rw [h,zms]⟩
theorem zew {a b c:AtomD} (h1:cmpD a b < 0) (h2:cmpD b c < 0):cmpD a c < 0:=zlc h1 (Int.le_of_lt h2)
theorem zkZ {a b:AtomD} (h1:cmpD a b < 0) (h2:cmpD b a < 0):False:=by
  have:=zgx a b
  omega
def AscD (s:List AtomD):Prop:=s.Pairwise (fun x y=>cmpD x y < 0)
structure SortedOf (l s:List AtomD):Prop where
  asc:AscD s
  first:∀ y∈s,(l.filter (fun x=>zd3 x == zd3 y)).head? = some y
  cov:∀ x∈l,∃ y∈s,zd3 y=zd3 x
theorem SortedOf.mem {l s:List AtomD} (f:SortedOf l s) {y:AtomD} (h:y∈s):y∈l:=(List.mem_filter.1 (List.mem_of_mem_head? (f.first y h))).1
theorem zmF:∀ {s1 s2:List AtomD},AscD s1→AscD s2→(∀ x,x∈s1↔x∈s2)→s1=s2
  | [],[],_,_,_=>rfl
  | [],y::r,_,_,h=>absurd ((h y).2 (List.mem_cons_self ..)) (by simp)
  | x::r,[],_,_,h=>absurd ((h x).1 (List.mem_cons_self ..)) (by simp)
  | x::r1,y::r2,h1,h2,h=>by
    have g1:=List.pairwise_cons.1 h1
    have g2:=List.pairwise_cons.1 h2
    have e:x=y:=by
      rcases List.mem_cons.1 ((h x).1 (List.mem_cons_self ..)) with e | hx
      · exact e
      · rcases List.mem_cons.1 ((h y).2 (List.mem_cons_self ..)) with e | hy
        · exact e.symm
        · exact (zkZ (g2.1 x hx) (g1.1 y hy)).elim
    subst e
    rw [zmF (s1:=r1) (s2:=r2) g1.2 g2.2 (fun z=>⟨fun hz=>?_,fun hz=>?_⟩)]
    · rcases List.mem_cons.1 ((h z).1 (List.mem_cons_of_mem _ hz)) with e | hz2
      · subst e
        have:=g1.1 z hz
        rw [zeT] at this
        omega
      · exact hz2
    · rcases List.mem_cons.1 ((h z).2 (List.mem_cons_of_mem _ hz)) with e | hz2
      · subst e
        have:=g2.1 z hz
        rw [zeT] at this
        omega
      · exact hz2
theorem SortedOf.sub {l s1 s2:List AtomD} (f:SortedOf l s1) (g:SortedOf l s2) {y:AtomD} (h:y∈s1):y∈s2:=by
  obtain ⟨z,hz,e⟩:=g.cov y (f.mem h)
  have h1:=f.first y h
  have h2:=g.first z hz
  rw [e] at h2
  rw [h1] at h2
  cases h2
  exact hz
theorem SortedOf.eq {l s1 s2:List AtomD} (f:SortedOf l s1) (g:SortedOf l s2):s1=s2:=zmF f.asc g.asc (fun x=>⟨fun h=>f.sub g h,fun h=>g.sub f h⟩)
def putA (a:AtomD):List AtomD→List AtomD
  | []=>[a]
  | x::r=>if cmpD a x < 0 then a::x::r else if cmpD a x=0 then x::r else x::putA a r
theorem zep {a y:AtomD}:∀ {s:List AtomD},AscD s→(y∈putA a s↔y∈s∨(y=a∧∀ x∈s,cmpD a x≠0))
  | [],_=>by simp [putA]
  | x::r,h=>by
    have g:=List.pairwise_cons.1 h
    unfold putA
    by_cases h1:cmpD a x < 0
    · rw [if_pos h1,List.mem_cons]
      constructor
      · rintro (e | e)
        · right
          refine ⟨e,fun z hz=>?_⟩
          rcases List.mem_cons.1 hz with e2 | hz2
          · subst e2; omega
          · have:=zew h1 (g.1 z hz2); omega
        · exact .inl e
      · rintro (e | ⟨e,_⟩)
        · exact .inr e
        · exact .inl e
    · rw [if_neg h1]
      by_cases h2:cmpD a x=0
      · rw [if_pos h2]
        constructor
        · exact fun e=>.inl e
        · rintro (e | ⟨e,e2⟩)
          · exact e
          · exact absurd h2 (e2 x (List.mem_cons_self ..))
      · rw [if_neg h2,List.mem_cons,zep g.2,List.mem_cons]
        constructor
        · rintro (e | e | ⟨e,e2⟩)
          · exact .inl (.inl e)
          · exact .inl (.inr e)
          · refine .inr ⟨e,fun z hz=>?_⟩
            rcases List.mem_cons.1 hz with e3 | hz2
            · subst e3; exact h2
            · exact e2 z hz2
        · rintro ((e | e) | ⟨e,e2⟩)
          · exact .inl e
          · exact .inr (.inl e)
          · exact .inr (.inr ⟨e,fun z hz=>e2 z (List.mem_cons_of_mem _ hz)⟩)
theorem zlm {a:AtomD}:∀ {s:List AtomD},AscD s→AscD (putA a s)
  | [],_=>by simp [putA,AscD]
  | x::r,h=>by
    have g:=List.pairwise_cons.1 h
    unfold putA
    by_cases h1:cmpD a x < 0
    · rw [if_pos h1]
      refine List.pairwise_cons.2 ⟨fun z hz=>?_,h⟩
      rcases List.mem_cons.1 hz with e | hz2
      · subst e; exact h1
      · exact zew h1 (g.1 z hz2)
    · rw [if_neg h1]
      by_cases h2:cmpD a x=0
      · rw [if_pos h2]; exact h
      · rw [if_neg h2]
        refine List.pairwise_cons.2 ⟨fun z hz=>?_,zlm g.2⟩
        rcases (zep g.2).1 hz with e | ⟨e,_⟩
        · exact g.1 z e
        · subst e
          have:=zgx z x
          omega
theorem SortedOf.put {l s:List AtomD} (f:SortedOf l s) (a:AtomD):SortedOf (l++[a]) (putA a s):=by
  refine ⟨zlm f.asc,fun y hy=>?_,fun x hx=>?_⟩
  · rw [List.filter_append,List.head?_append]
    rcases (zep f.asc).1 hy with e | ⟨e,e2⟩
    · rw [f.first y e]
      rfl
    · subst e
      have hn:l.filter (fun x=>zd3 x == zd3 y)=[]:=by
        rw [List.filter_eq_nil_iff]
        intro x hx hxy
        rw [beq_iff_eq] at hxy
        obtain ⟨z,hz,e3⟩:=f.cov x hx
        exact e2 z hz (cmpD_zero.2 (e3.trans hxy).symm)
      rw [hn]
      simp
  · rcases List.mem_append.1 hx with e | e
    · obtain ⟨y,hy,e2⟩:=f.cov x e
      exact ⟨y,(zep f.asc).2 (.inl hy),e2⟩
    · have e:x=a:=by simpa using e
      subst e
      by_cases hex:∀ z∈s,cmpD x z≠0
      · exact ⟨x,(zep f.asc).2 (.inr ⟨rfl,hex⟩),rfl⟩
      · have:∃ z,z∈s∧cmpD x z=0:=by
          apply Classical.byContradiction
          intro hn
          exact hex (fun z hz e=>hn ⟨z,hz,e⟩)
        obtain ⟨z,hz,e⟩:=this
        exact ⟨z,(zep f.asc).2 (.inl hz),(cmpD_zero.1 e).symm⟩
theorem SortedOf.nil:SortedOf [] []:=⟨List.Pairwise.nil,nofun,nofun⟩
def zjM (l:List AtomD):List AtomD:=l.foldl (fun s a=>putA a s) []
theorem zoR:∀ (m:List AtomD) {l s:List AtomD},SortedOf l s→SortedOf (l++m) (m.foldl (fun s a=>putA a s) s)
  | [],l,s,f=>by rw [List.append_nil]; exact f
  | a::m,l,s,f=>by
    have:=zoR m (f.put a)
    rwa [List.append_assoc] at this
theorem zdO (l:List AtomD):SortedOf l (zjM l):=zoR l SortedOf.nil
theorem SortedOf.is {l s:List AtomD} (f:SortedOf l s):s=zjM l:=f.eq (zdO l)
theorem SortedOf.over {l l' s:List AtomD} (f:SortedOf l' s) (hp:l'.Perm l) (hst:Stab l l'):SortedOf l s:=⟨f.asc,fun y hy=>by rw [← hst]; exact f.first y hy,fun x hx=>f.cov x (hp.mem_iff.2 hx)⟩
end Go.Am
namespace Go.Am
set_option linter.unusedVariables false
set_option linter.unusedSimpArgs false
structure Emp (h:Heap) (v:Value):Prop where
  sl:Sl Rep.atom h v []
  no:v=.slice none 0 0∨∃ B o,v=.slice (some ⟨B,o,none⟩) 0 0
theorem Emp.nil {h:Heap}:Emp h (.slice none 0 0):=⟨Sl.nil,.inl rfl⟩
theorem Emp.mono {h h':Heap} {v:Value} (f:Emp h v) (i:Inc h h'):Emp h' v:=⟨f.sl.mono i,f.no⟩
theorem Emp.lay {h:Heap} {v:Value} (f:Emp h v) (bs:List Blk) (w:Nat):Emp (h.lay bs w) v:=⟨f.sl.lay bs w,f.no⟩
theorem Emp.over {h1 h2:Heap} {v:Value} {bs:List Blk} {w:Nat} (f:Emp h1 v) (x:Ext (h1.lay bs w) h2):Emp h2 v:=⟨f.sl.over x,f.no⟩
def OwnA (h0 h:Heap) (u:TypeId) (v:Value) (s:List AtomD):Prop :=
  (s=[]∧Emp h v)∨∃ A t,v=.slice (some ⟨A,0,none⟩) s.length (G*11+(s++t).length)∧Holds h A (.row (rowA (s++t)) u false)∧h0.size≤A∧(s++t).length≤100000
theorem OwnA.mono {h0 h h':Heap} {u:TypeId} {v:Value} {s:List AtomD} (f:OwnA h0 h u v s) (i:Inc h h'):OwnA h0 h' u v s:=by
  rcases f with ⟨e,f⟩ | ⟨A,t,e1,e2,e3⟩
  · exact .inl ⟨e,f.mono i⟩
  · exact .inr ⟨A,t,e1,e2.mono i,e3⟩
theorem OwnA.down {h0 h1 h:Heap} {u:TypeId} {v:Value} {s:List AtomD} (f:OwnA h1 h u v s) (i:h0.size≤h1.size):OwnA h0 h u v s:=by
  rcases f with f | ⟨A,t,e1,e2,e3,e4⟩
  · exact .inl f
  · exact .inr ⟨A,t,e1,e2,by omega,e4⟩
theorem OwnA.lay {h0 h:Heap} {u:TypeId} {v:Value} {s:List AtomD} (f:OwnA h0 h u v s) (bs:List Blk) (w:Nat):OwnA h0 (h.lay bs w) u v s:=f.mono (Inc.lay h bs w)
theorem zlu:100000 < G:=by unfold G; omega
theorem zyM {h:Heap} {A o:Nat} {l s:List AtomD} {u:TypeId} {c:Nat} {ro:Bool} (q:Holds h A (.row (rowA l) u ro)) (hc:zmJ 11 s.length c) (hn:s.length≤100000) (hs:∀ (i:Nat) (x:AtomD),s[i]? = some x→l[o+i]? = some x):Sl Rep.atom h (.slice (some ⟨A,o*11,none⟩) s.length c) s:=by
  refine .inr ⟨A,o*11,c,rowA l,u,ro,rfl,(by have:(100000:Nat)≤maxLen:=by decide
                                            omega),hc,q.lt,q.get,fun i x hx=>⟨x.cells,?_,rfl⟩⟩
  show cut (rowA l) (o*11+i*11) 11=_
  rw [← Nat.add_mul]
  exact zxW (hs i x hx)
theorem OwnA.sl {h0 h:Heap} {u:TypeId} {v:Value} {s:List AtomD} (f:OwnA h0 h u v s):Sl Rep.atom h v s:=by
  rcases f with ⟨rfl,f⟩ | ⟨A,t,rfl,e2,e3,e4⟩
  · exact f.sl
  · have hG:=zlu
    obtain ⟨d1,d2,d3⟩:=zdQ (k:=11) (q:=(s++t).length) (by decide) (by omega)
    have hle:s.length≤(s++t).length:=by rw [List.length_append]; omega
    have:=zyM (o:=0) (s:=s) e2 (.inr ⟨d1,d2,by rw [d3]; omega⟩) (by omega) (fun i x hx=>by rw [Nat.zero_add,List.getElem?_append_left (List.getElem?_eq_some_iff.1 hx).1]; exact hx)
    simpa using this
def OwnX (h0 h:Heap) (u:TypeId) (v:Value) (s:List AtomD):Prop :=
  (s=[]∧Emp h v)∨∃ A,v=.slice (some ⟨A,0,none⟩) s.length (G*11+s.length)∧Holds h A (.row (rowA s) u false)∧h0.size≤A∧s≠[]
theorem OwnX.own {h0 h:Heap} {u:TypeId} {v:Value} {s:List AtomD} (f:OwnX h0 h u v s) (hn:s.length≤100000):OwnA h0 h u v s:=by
  rcases f with f | ⟨A,e1,e2,e3,e4⟩
  · exact .inl f
  · exact .inr ⟨A,[],by rw [List.append_nil]; exact e1,by rw [List.append_nil]; exact e2,e3,by rw [List.append_nil]; exact hn⟩
section
variable {P:Program} {T:Tab} {ov:Ov} {d:Option Tmp} {ty:TypeId} {pos:String} {af:Array Edge} {g:Option (Nat × Bool)} {e:Env} {h:Heap} {K:Value→Heap→Prop}
theorem zyV (t:TypeId) (x:Operand):WOp P T ov ⟨d,.call ⟨.builtin .clear,#[x],#[t]⟩,ty,pos,af,g⟩ e h K=memE (zdS T t (zab e x) h) K:=by
  show optE ((zdS T t (zab e x) h).map fun h'=>(undef,h')) K=_
  cases zdS T t (zab e x) h <;> rfl
end
theorem zyL {l:List AtomD} (h:∀ k,0 < k→k < l.length→cmpD (l.getD (k - 1) noAtomD) (l.getD k noAtomD) < 0) {i j:Nat} (hij:i < j) (hj:j < l.length):cmpD (l.getD i noAtomD) (l.getD j noAtomD) < 0:=by
  induction j with
  | zero=>omega
  | succ j ih =>
    have g:=h (j+1) (by omega) hj
    rw [Nat.add_sub_cancel] at g
    by_cases e:i=j
    · subst e
      exact g
    · exact zew (ih (by omega) (by omega)) g
theorem asc_iff {l:List AtomD}:AscD l↔∀ k,0 < k→k < l.length→cmpD (l.getD (k - 1) noAtomD) (l.getD k noAtomD) < 0:=by
  constructor
  · intro h k h1 h2
    have:=List.pairwise_iff_getElem.1 h (k - 1) k (by omega) h2 (by omega)
    rw [List.getD_eq_getElem?_getD,List.getD_eq_getElem?_getD,List.getElem?_eq_getElem h2,List.getElem?_eq_getElem (show k - 1 < l.length by omega)]
    exact this
  · intro h
    refine List.pairwise_iff_getElem.2 (fun i j hi hj hij=>?_)
    have:=zyL h hij hj
    rw [List.getD_eq_getElem?_getD,List.getD_eq_getElem?_getD,List.getElem?_eq_getElem hj,List.getElem?_eq_getElem hi] at this
    exact this
def hasA (l:List AtomD) (a:AtomD):Bool:=l.any (fun x=>zd3 x == zd3 a)
theorem zwL {l:List AtomD} {a:AtomD}:hasA l a=true↔∃ x∈l,zd3 x=zd3 a:=by
  unfold hasA
  rw [List.any_eq_true]
  simp only [beq_iff_eq]
theorem zjV (a:AtomD):∀ s:List AtomD,(putA a s).length≤s.length+1
  | []=>by simp [putA]
  | x::r=>by
    have:=zjV a r
    unfold putA
    repeat' split
    all_goals simp only [List.length_cons]
    all_goals omega
theorem zeK:∀ (m s:List AtomD),(m.foldl (fun s a=>putA a s) s).length≤s.length+m.length
  | [],s=>by simp
  | a::m,s=>by
    have h1:=zeK m (putA a s)
    have h2:=zjV a s
    simp only [List.foldl_cons,List.length_cons]
    omega
theorem zni (l:List AtomD):(zjM l).length≤l.length:=by
  have:=zeK l []
  simpa [zjM] using this
structure AmPlace (l:List AtomD) (a:AtomD) (i:Nat):Prop where
  le:i≤l.length
  lo:∀ k,k < i→cmpD (l.getD k noAtomD) a < 0
  hi:∀ k,i≤k→k < l.length→¬ cmpD (l.getD k noAtomD) a < 0
theorem AmPlace.has {l:List AtomD} {a:AtomD} {i:Nat} (p:AmPlace l a i) (hs:AscD l):hasA l a=true↔i < l.length∧cmpD (l.getD i noAtomD) a=0:=by
  rw [zwL]
  constructor
  · rintro ⟨x,hx,e⟩
    obtain ⟨k,hk⟩:=List.getElem?_of_mem hx
    have hkl:=(List.getElem?_eq_some_iff.1 hk).1
    have e2:l.getD k noAtomD=x:=by rw [List.getD_eq_getElem?_getD,hk]; rfl
    have h0:cmpD (l.getD k noAtomD) a=0:=by rw [e2]; exact cmpD_zero.2 e
    have hik:i≤k:=by
      rcases Nat.lt_or_ge k i with g | g
      · have:=p.lo k g; omega
      · exact g
    refine ⟨by omega,?_⟩
    rcases Nat.eq_or_lt_of_le hik with g | g
    · rw [g]; exact h0
    · have h1:=zyL (asc_iff.1 hs) g hkl
      have h2:=p.hi i (Nat.le_refl _) (by omega)
      have h3:=zlc h1 (Int.le_of_eq h0)
      exact absurd h3 h2
  · rintro ⟨h1,h2⟩
    exact ⟨_,List.mem_of_getElem? (zAt h1),cmpD_zero.1 h2⟩
abbrev Rep.atoms:Rep (List AtomD) :=
  { k:=1,R:=fun h cs x=>∃ v,cs=[v]∧Sl Rep.atom h v x
    len:=by rintro h cs x ⟨v,rfl,_⟩; rfl
    mono:=by rintro h h' cs x i ⟨v,e,f⟩; exact ⟨v,e,f.mono i⟩
    ones:=by rintro h cs x ⟨v,rfl,f⟩; have:=f.one; simp only [List.all_cons,List.all_nil,this]; rfl }
end Go.Am
