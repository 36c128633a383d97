/- Rows of placed requests, sorted by place: written out of what is said of rows of atoms (mkplaced.py). No condition. -/
import Derived.Test.YtemapihoobmonaaGreatDoorG15
import Derived.Test.YtemapihoobmonaaGreatDoorG24
import Derived.Test.YtemapihoobmonaaGreatDoorG42
import Derived.Test.YtemapihoobmonaaGreatDoorZK17
namespace Go.Am
set_option linter.unusedVariables false
set_option linter.unusedSimpArgs false
structure PlD where
  at_:Int
  s:SentD
def PlD.cells (x:PlD):List Value:=[.int .i64 x.at_,.string x.s.sender,.string x.s.payload]
def PlD.val (x:PlD):Value:=.agg ⟨x.cells⟩
def zaw:PlD:=⟨0,noSentD⟩
def PlD.light (x:PlD):Bool:=decide (0≤x.at_∧x.at_≤1000)
abbrev Rep.placed:Rep PlD:={ k:=3,R:=fun _ cs x=>cs=x.cells,len:=by rintro _ _ _ rfl; rfl,mono:=fun _ _ _ _ _ h=>h,ones:=by rintro _ _ _ rfl; rfl }
theorem zmY (a:PlD):a.val.cells.toList=a.cells:=rfl
theorem zbl (a:PlD) (h:Heap) (K:Value→Heap→Prop):valE (some a.val) h K=K a.val h:=rfl
theorem zkK (a:PlD):cut a.cells 0 3=some a.cells:=rfl
theorem zkr (a:PlD):Value.agg a.cells.toArray=a.val:=rfl
def zdw (a:PlD):Int:=a.at_
def zbj (a b:PlD):Int:=a.at_ - b.at_
theorem zhb (a b:PlD):zbj a b = - zbj b a:=by unfold zbj; omega
theorem zcq {a b c:PlD} (h1:zbj a b≤0) (h2:zbj b c≤0):zbj a c≤0:=by unfold zbj at *; omega
theorem zkN (a:PlD):zbj a a=0:=by unfold zbj; omega
theorem ziJ {a b:PlD} (h:zbj a b < 0):zdw a≠zdw b:=by unfold zbj at h; unfold zdw; omega
def zbk (l:List PlD):List Value:=l.flatMap PlD.cells
theorem zhI (l:List PlD):(zbk l).length=l.length*3:=by
  unfold zbk
  induction l with
  | nil=>rfl
  | cons x l ih=>rw [List.flatMap_cons,List.length_append,ih,List.length_cons]; show 3+_=_; omega
theorem zm9 {l:List PlD} {i:Nat} {x:PlD} (h:l[i]? = some x):cut (zbk l) (i*3) 3=some x.cells:=by
  have hi:=(List.getElem?_eq_some_iff.1 h).1
  unfold cut
  rw [if_pos (by rw [zhI]; omega)]
  congr 1
  unfold zbk
  induction l generalizing i with
  | nil=>simp at h
  | cons y l ih =>
    cases i with
    | zero =>
      simp at h
      subst h
      rfl
    | succ i =>
      rw [List.flatMap_cons,show (i+1)*3=y.cells.length+i*3 by show _=3+_; omega,List.drop_append]
      have h2:y.cells.drop (y.cells.length+i*3)=[]:=List.drop_of_length_le (by omega)
      rw [h2,List.nil_append,Nat.add_sub_cancel_left]
      exact ih (by simpa using h) (by simpa using hi)
theorem zv7 {l:List PlD} {i:Nat} {x:PlD} (hi:i < l.length):splice (zbk l) (i*3) x.cells=zbk (l.set i x):=by
  unfold splice
  have hx:x.cells.length=3:=rfl
  rw [hx]
  unfold zbk
  induction l generalizing i with
  | nil=>simp at hi
  | cons y l ih =>
    have hy:y.cells.length=3:=rfl
    cases i with
    | zero =>
      rw [List.set_cons_zero,List.flatMap_cons,List.flatMap_cons,Nat.zero_mul,List.take_zero,List.nil_append,Nat.zero_add,List.drop_append,List.drop_of_length_le (by omega),hy]
      simp
    | succ i =>
      rw [List.set_cons_succ,List.flatMap_cons,List.flatMap_cons,← ih (i:=i) (by simpa using hi)]
      rw [show (i+1)*3=y.cells.length+i*3 by omega,List.take_append,List.take_of_length_le (by omega),Nat.add_sub_cancel_left,show y.cells.length+i*3+3=y.cells.length+(i*3+3) by omega,List.drop_append,List.drop_of_length_le (by omega),Nat.add_sub_cancel_left]
      simp
theorem zb6 {T:Tab} {t u:TypeId} {A i:Nat} {l:List PlD} {x:PlD} {h1:Heap} {bs:List Blk} {w:Nat} {K:Value→Heap→Prop} (q:Holds h1 A (.row (zbk l) u false)) (hs:zaM T t=some 3) (hi:i < l.length)
    (hK:∀ h',Holds h' A (.row (zbk (l.set i x)) u false)→Chg A (h1.lay bs w) h'→K undef h'):memE (zbd T t (.pointer (some ⟨A,i*3,none⟩)) x.val (h1.lay bs w)) K:=by
  have hg:(h1.lay bs w).get A=some (.row (zbk l) u false):=q.lay bs w
  have hA:A < (h1.lay bs w).size:=(q.on bs w).lt
  have he:zbd T t (.pointer (some ⟨A,i*3,none⟩)) x.val (h1.lay bs w)=some ((h1.lay bs w).set A (.row (zbk (l.set i x)) u false)):=by
    unfold zbd
    simp only [hs,Option.bind_some]
    have h1:x.val.cells.toList=x.cells:=rfl
    have h2:x.val.cells.size=3:=rfl
    have h3:x.cells.length=3:=rfl
    have h4:x.cells.all one=true:=rfl
    rw [if_pos h2,h1]
    unfold zbW
    rw [hg]
    simp only
    rw [if_pos (by simp only [Bool.and_eq_true,decide_eq_true_eq]; exact ⟨by rw [zhI,h3]; omega,h4⟩),zv7 hi]
  rw [he]
  refine hK _ ⟨by rw [Heap.size_set]; exact hA,by rw [Heap.get_set _ _ _ _ hA,if_pos rfl]⟩ ⟨by rw [Heap.size_set]; exact Nat.le_refl _,fun B hB hne=>by rw [Heap.get_set _ _ _ _ hA,if_neg hne],by rw [Heap.low_set]; omega⟩
theorem za4 {u:TypeId} {A i:Nat} {l:List PlD} {x:PlD} {ro:Bool} {h1:Heap} {bs:List Blk} {w:Nat} (q:Holds h1 A (.row (zbk l) u ro)) (hx:l[i]? = some x):cutO ((h1.lay bs w).get A) (i*3) 3=some x.val:=by
  have hh:(h1.lay bs w).get A=some (.row (zbk l) u ro):=q.lay bs w
  rw [hh]
  show (cut (zbk l) (i*3) 3).map _=_
  rw [zm9 hx]
  rfl
def zby (l:List PlD) (i j:Nat):List PlD:=(l.set i (l.getD j zaw)).set j (l.getD i zaw)
theorem zgs (l:List PlD) (i j:Nat):(zby l i j).length=l.length:=by unfold zby; rw [List.length_set,List.length_set]
theorem zbq {l:List PlD} {i:Nat} (h:i < l.length):l[i]? = some (l.getD i zaw):=by
  rw [List.getD_eq_getElem?_getD,List.getElem?_eq_getElem h]
  rfl
theorem zcu {l:List PlD} {i j:Nat} (hi:i < l.length) (hj:j < l.length) (k:Nat):(zby l i j).getD k zaw=if k=j then l.getD i zaw else if k=i then l.getD j zaw else l.getD k zaw:=by
  unfold zby
  rw [List.getD_eq_getElem?_getD,List.getElem?_set,List.length_set]
  by_cases h1:j=k
  · subst h1
    rw [if_pos rfl,if_pos hj,if_pos rfl]
    rfl
  · rw [if_neg h1,if_neg (fun e=>h1 e.symm),List.getElem?_set]
    by_cases h2:i=k
    · subst h2
      rw [if_pos rfl,if_pos hi,if_pos rfl]
      rfl
    · rw [if_neg h2,if_neg (fun e=>h2 e.symm),List.getD_eq_getElem?_getD]
theorem zfW {l:List PlD} {i j:Nat} (hi:i < l.length) (hj:j < l.length):(zby l i j).Perm l:=by
  unfold zby
  have e1:l.getD i zaw=l[i]:=by rw [List.getD_eq_getElem?_getD,List.getElem?_eq_getElem hi]; rfl
  have e2:l.getD j zaw=l[j]:=by rw [List.getD_eq_getElem?_getD,List.getElem?_eq_getElem hj]; rfl
  rw [e1,e2]
  exact List.set_set_perm hi hj
theorem zfv {a b:PlD} (h:¬ zbj a b < 0):zbj b a≤0:=by
  rw [zhb b a]
  omega
def zaB (l:List PlD) (a b:Nat):Prop:=∀ k,a < k→k < b→zbj (l.getD (k - 1) zaw) (l.getD k zaw)≤0
def zem (l l':List PlD) (a b:Nat):Prop:=∀ k,k < a∨b≤k→l'.getD k zaw=l.getD k zaw
def zna (l:List PlD) (a i j:Nat):Prop:=(∀ k,a < k→k≤i→k≠j→zbj (l.getD (k - 1) zaw) (l.getD k zaw)≤0)∧(a < j→j < i→zbj (l.getD (j - 1) zaw) (l.getD (j+1) zaw)≤0)
theorem zol {l:List PlD} {a i:Nat} (h:zaB l a i):zna l a i i:=⟨fun k h1 h2 h3=>h k h1 (by omega),fun _ h=>by omega⟩
theorem zkW {l:List PlD} {a i j:Nat} (h:zna l a i j) (hj:j≤i) (he:a < j→zbj (l.getD (j - 1) zaw) (l.getD j zaw)≤0):zaB l a (i+1):=by
  intro k h1 h2
  by_cases hkj:k=j
  · subst hkj
    exact he h1
  · exact h.1 k h1 (by omega) hkj
theorem zqb {l:List PlD} {a i j:Nat} (h:zna l a i j) (haj:a < j) (hji:j≤i) (hi:i < l.length) (hlt:zbj (l.getD j zaw) (l.getD (j - 1) zaw) < 0):zna (zby l j (j - 1)) a i (j - 1):=by
  have g:=fun k=>zcu (l:=l) (i:=j) (j:=j - 1) (by omega) (by omega) k
  refine ⟨fun k h1 h2 h3=>?_,fun h1 h2=>?_⟩
  · rw [g,g]
    by_cases e1:k=j
    · subst e1
      rw [if_pos rfl,if_neg (by omega),if_pos rfl]
      omega
    · by_cases e2:k=j+1
      · subst e2
        rw [if_neg (by omega),if_pos (by omega),if_neg (by omega),if_neg (by omega)]
        have:=h.2 haj (by omega)
        exact this
      · rw [if_neg (by omega),if_neg (by omega),if_neg (by omega),if_neg (by omega)]
        exact h.1 k h1 h2 (by omega)
  · rw [g,g]
    rw [if_neg (by omega),if_neg (by omega),if_neg (by omega),if_pos (by omega)]
    exact h.1 (j - 1) h1 (by omega) (by omega)
theorem zmf {l l1:List PlD} {a i j:Nat} (h:zem l l1 a (i+1)) (haj:a < j) (hji:j≤i) (hi:i < l1.length):zem l (zby l1 j (j - 1)) a (i+1):=by
  intro k hk
  rw [zcu (by omega) (by omega),if_neg (by omega),if_neg (by omega)]
  exact h k hk
theorem zck {l l1:List PlD} (h:∀ x∈l,x.light=true) (p:l1.Perm l):∀ x∈l1,x.light=true:=fun x hx=>h x (p.mem_iff.1 hx)
theorem zb0 {l:List PlD} (h:∀ x∈l,x.light=true) {k:Nat} (hk:k < l.length):(l.getD k zaw).light=true:=h _ (List.mem_of_getElem? (zbq hk))
def zfb (l l':List PlD) (a b n:Nat):Prop:=∀ k,l'.getD k zaw=if a≤k∧k < a+n then l.getD (k - a+b) zaw else if b≤k∧k < b+n then l.getD (k - b+a) zaw else l.getD k zaw
theorem zmD (l:List PlD) (a b:Nat):zfb l l a b 0:=by
  intro k
  rw [if_neg (by omega),if_neg (by omega)]
theorem zoQ {l l1:List PlD} {a b n i:Nat} (h:zfb l l1 a b i) (hd:a+n≤b) (hi:i < n) (hb:b+n≤l1.length):zfb l (zby l1 (a+i) (b+i)) a b (i+1):=by
  intro k
  rw [zcu (by omega) (by omega),h,h,h]
  repeat' split
  all_goals first | rfl | (exfalso; omega) | (congr 1; omega)
def zjm (t cur:List PlD) (m i j:Nat):Prop:=∀ k,t.getD k zaw=if m - i≤k∧k < m+j then (if k < m - i+j then cur.getD (k+i) zaw else cur.getD (k - j) zaw) else cur.getD k zaw
theorem zp7 {t cur new:List PlD} {m i j:Nat} (h:zjm t cur m i j) (him:i≤m) (hij:j < i) (hs:zfb cur new (m - i) m j):zjm t new m (i - j) j:=by
  intro k
  rw [h k,hs k,hs (k+(i - j)),hs (k - j)]
  repeat' split
  all_goals first | rfl | (exfalso; omega) | (congr 1; omega)
theorem znu {t cur new:List PlD} {m i j:Nat} (h:zjm t cur m i j) (him:i≤m) (hij:i < j) (hs:zfb cur new (m - i) (m+j - i) i):zjm t new m i (j - i):=by
  intro k
  rw [h k,hs k,hs (k+i),hs (k - (j - i))]
  repeat' split
  all_goals first | rfl | (exfalso; omega) | (congr 1; omega)
theorem zs8 {t cur new:List PlD} {m i:Nat} (h:zjm t cur m i i) (him:i≤m) (hs:zfb cur new (m - i) m i):∀ k,t.getD k zaw=new.getD k zaw:=by
  intro k
  rw [h k,hs k]
  repeat' split
  all_goals first | rfl | (exfalso; omega) | (congr 1; omega)
theorem ziQ {l m:List PlD} (hl:l.length=m.length) (h:∀ k,l.getD k zaw=m.getD k zaw):l=m:=by
  apply List.ext_getElem hl
  intro k h1 h2
  have:=h k
  rw [List.getD_eq_getElem?_getD,List.getD_eq_getElem?_getD,List.getElem?_eq_getElem h1,List.getElem?_eq_getElem h2] at this
  exact this
def zfA (l:List PlD) (a m b:Nat):List PlD:=(List.range l.length).map fun k=>if a≤k∧k < b then (if k < a+(b - m) then l.getD (k+(m - a)) zaw else l.getD (k - (b - m)) zaw) else l.getD k zaw
theorem zgf (l:List PlD) (a m b:Nat):(zfA l a m b).length=l.length:=by unfold zfA; rw [List.length_map,List.length_range]
theorem zmN {l:List PlD} {k:Nat} (h:l.length≤k):l.getD k zaw=zaw:=by
  rw [List.getD_eq_getElem?_getD,List.getElem?_eq_none h]
  rfl
theorem zfk {l:List PlD} {a m b:Nat} (hb:b≤l.length) (k:Nat):(zfA l a m b).getD k zaw=if a≤k∧k < b then (if k < a+(b - m) then l.getD (k+(m - a)) zaw else l.getD (k - (b - m)) zaw) else l.getD k zaw:=by
  by_cases hk:k < l.length
  · rw [List.getD_eq_getElem?_getD]
    unfold zfA
    rw [List.getElem?_map,List.getElem?_range hk]
    rfl
  · rw [zmN (by rw [zgf]; omega),if_neg (by omega),zmN (by omega)]
theorem zm3 {l:List PlD} {a m b:Nat} (ham:a≤m) (hmb:m≤b) (hb:b≤l.length):zjm (zfA l a m b) l m (m - a) (b - m):=by
  intro k
  rw [zfk hb]
  repeat' split
  all_goals first | rfl | (exfalso; omega) | (congr 1; omega)
def StabP (l l':List PlD):Prop:=∀ t:Int,l'.filter (fun x=>zdw x == t)=l.filter (fun x=>zdw x == t)
theorem StabP.refl (l:List PlD):StabP l l:=fun _=>rfl
theorem StabP.trans {l l1 l2:List PlD} (x:StabP l l1) (y:StabP l1 l2):StabP l l2:=fun t=>(y t).trans (x t)
theorem zg6:∀ {l:List PlD} {k:Nat},k+1 < l.length→zdw (l.getD k zaw)≠zdw (l.getD (k+1) zaw)→StabP l (zby l k (k+1))
  | [],k,hk,_=>by simp at hk
  | [x],k,hk,_=>by simp at hk
  | x::y::r,0,_,hne=>by
    intro t
    have e:zby (x::y::r) 0 1=y::x::r:=rfl
    rw [e]
    have hne':zdw x≠zdw y:=hne
    by_cases hx:zdw x=t
    · have hy:¬ zdw y=t:=fun h=>hne' (hx.trans h.symm)
      simp [List.filter_cons,hx,hy]
    · simp [List.filter_cons,hx]
  | x::y::r,k+1,hk,hne=>by
    intro t
    have e:zby (x::y::r) (k+1) (k+1+1)=x::zby (y::r) k (k+1):=rfl
    rw [e,List.filter_cons,List.filter_cons,zg6 (l:=y::r) (k:=k) (by simpa using hk) hne t]
theorem zpC {l:List PlD} {i j:Nat} (hi:i < l.length) (hj:j < l.length):zby l i j=zby l j i:=by
  refine ziQ (by rw [zgs,zgs]) (fun k=>?_)
  rw [zcu hi hj,zcu hj hi]
  repeat' split
  all_goals first | rfl | (subst_vars; rfl)
theorem zkw {l:List PlD} {j:Nat} (h0:0 < j) (hj:j < l.length) (hlt:zbj (l.getD j zaw) (l.getD (j - 1) zaw) < 0):StabP l (zby l j (j - 1)):=by
  rw [zpC hj (by omega)]
  have:=zg6 (l:=l) (k:=j - 1) (by omega) (by rw [show j - 1+1=j by omega]; exact fun e=>ziJ hlt e.symm)
  rwa [show j - 1+1=j by omega] at this
theorem zwK {l:List PlD} {k:Nat} (hk:k+1 < l.length) (hlt:zbj (l.getD (k+1) zaw) (l.getD k zaw) < 0):StabP l (zby l k (k+1)):=zg6 hk (fun e=>ziJ hlt e.symm)
theorem zjO {a b c:PlD} (h1:zbj a b≤0) (h2:zbj b c < 0):zbj a c < 0:=by
  by_cases h:zbj a c < 0
  · exact h
  · have h3:=zcq (zfv h) h1
    have h4:=zhb b c
    omega
theorem zjG {a b c:PlD} (h1:zbj a b < 0) (h2:zbj b c≤0):zbj a c < 0:=by
  by_cases h:zbj a c < 0
  · exact h
  · have h3:=zcq h2 (zfv h)
    have h4:=zhb a b
    omega
theorem zbv {l:List PlD} {a b:Nat} (h:zaB l a b) {i j:Nat} (hi:a≤i) (hij:i≤j) (hj:j < b):zbj (l.getD i zaw) (l.getD j zaw)≤0:=by
  induction j with
  | zero =>
    have:i=0:=by omega
    subst this
    rw [zkN]
    exact Int.le_refl _
  | succ j ih =>
    by_cases e:i=j+1
    · subst e
      rw [zkN]
      exact Int.le_refl _
    · exact zcq (ih (by omega) (by omega)) (h (j+1) (by omega) hj)
structure MvP (l l':List PlD) (a b:Nat):Prop where
  perm:l'.Perm l
  out:zem l l' a b
  wit:∀ i,a≤i→i < b→∃ j,a≤j∧j < b∧l'.getD i zaw=l.getD j zaw
  stab:StabP l l'
theorem MvP.refl (l:List PlD) (a b:Nat):MvP l l a b:=⟨List.Perm.refl _,fun _ _=>rfl,fun i h1 h2=>⟨i,h1,h2,rfl⟩,StabP.refl l⟩
theorem MvP.trans {l l1 l2:List PlD} {a b:Nat} (x:MvP l l1 a b) (y:MvP l1 l2 a b):MvP l l2 a b:=⟨y.perm.trans x.perm,fun k hk=>(y.out k hk).trans (x.out k hk),fun i h1 h2=>by
  obtain ⟨j,g1,g2,g3⟩:=y.wit i h1 h2
  obtain ⟨k,f1,f2,f3⟩:=x.wit j g1 g2
  exact ⟨k,f1,f2,g3.trans f3⟩,x.stab.trans y.stab⟩
theorem MvP.widen {l l':List PlD} {a b a' b':Nat} (x:MvP l l' a b) (ha:a'≤a) (hb:b≤b'):MvP l l' a' b':=⟨x.perm,fun k hk=>x.out k (by omega),fun i h1 h2=>by
  by_cases h:a≤i∧i < b
  · obtain ⟨j,g1,g2,g3⟩:=x.wit i h.1 h.2
    exact ⟨j,by omega,by omega,g3⟩
  · exact ⟨i,h1,h2,x.out i (by omega)⟩,x.stab⟩
theorem MvP.swap {l:List PlD} {a b i j:Nat} (hi:a≤i∧i < b) (hj:a≤j∧j < b) (hb:b≤l.length) (hs:StabP l (zby l i j)):MvP l (zby l i j) a b:=by
  have g:=fun k=>zcu (l:=l) (i:=i) (j:=j) (by omega) (by omega) k
  refine ⟨zfW (by omega) (by omega),fun k hk=>?_,fun k h1 h2=>?_,hs⟩
  · rw [g,if_neg (by omega),if_neg (by omega)]
  · rw [g]
    split
    · exact ⟨i,by omega,by omega,rfl⟩
    · split
      · exact ⟨j,by omega,by omega,rfl⟩
      · exact ⟨k,h1,h2,rfl⟩
def zh0 (l l1:List PlD) (s m e:Nat):Prop:=∀ k,l1.getD k zaw=if s≤k∧k < e then (if k < s+(e - m) then l.getD (k+(m - s)) zaw else l.getD (k - (e - m)) zaw) else l.getD k zaw
theorem zu9 {l:List PlD} {s m e:Nat} (hs:s≤m) (he:m≤e) (h:s=m∨m=e):zh0 l l s m e:=by
  intro k
  repeat' split
  all_goals first | rfl | (exfalso; omega) | (congr 1; omega)
theorem zvj {l l1:List PlD} {s m e:Nat} (h:zh0 l l1 s m e) (hs:s≤m) (he:m≤e) (hp:l1.Perm l) (hst:StabP l l1):MvP l l1 s e:=by
  refine ⟨hp,fun k hk=>?_,fun k h1 h2=>?_,hst⟩
  · rw [h,if_neg (by omega)]
  · rw [h,if_pos ⟨h1,h2⟩]
    split
    · exact ⟨k+(m - s),by omega,by omega,rfl⟩
    · exact ⟨k - (e - m),by omega,by omega,rfl⟩
theorem zxf {l l':List PlD} {a b i:Nat} (h2:zaB l (a+1) b) (hmi:a+1≤i) (hib:i≤b) (hl:i=a+1∨zbj (l.getD (i - 1) zaw) (l.getD a zaw) < 0) (hr:i=b∨¬ zbj (l.getD i zaw) (l.getD a zaw) < 0)
    (hsh:∀ x,l'.getD x zaw=if a≤x∧x < i - 1 then l.getD (x+1) zaw else if x=i - 1 then l.getD a zaw else l.getD x zaw):zaB l' a b:=by
  intro p h1 h3
  rw [hsh,hsh]
  by_cases c1:p < i - 1
  · rw [if_pos (by omega),if_pos (by omega)]
    have:=h2 (p+1) (by omega) (by omega)
    rw [Nat.add_sub_cancel] at this
    rw [show p - 1+1=p by omega]
    exact this
  · by_cases c2:p=i - 1
    · subst c2
      rw [if_pos (by omega),if_neg (by omega),if_pos rfl,show i - 1 - 1+1=i - 1 by omega]
      rcases hl with hl | hl
      · omega
      · exact Int.le_of_lt hl
    · by_cases c3:p=i
      · subst c3
        rw [if_neg (by omega),if_pos rfl,if_neg (by omega),if_neg (by omega)]
        rcases hr with hr | hr
        · omega
        · exact zfv hr
      · rw [if_neg (by omega),if_neg (by omega),if_neg (by omega),if_neg (by omega)]
        exact h2 p (by omega) h3
theorem zvB {l l':List PlD} {a m i:Nat} (h1:zaB l a m) (hai:a≤i) (him:i≤m) (hl:i=a∨¬ zbj (l.getD m zaw) (l.getD (i - 1) zaw) < 0) (hr:i=m∨zbj (l.getD m zaw) (l.getD i zaw) < 0)
    (hsh:∀ x,l'.getD x zaw=if x=i then l.getD m zaw else if i < x∧x≤m then l.getD (x - 1) zaw else l.getD x zaw):zaB l' a (m+1):=by
  intro p h2 h3
  rw [hsh,hsh]
  by_cases c1:p < i
  · rw [if_neg (by omega),if_neg (by omega),if_neg (by omega),if_neg (by omega)]
    exact h1 p h2 (by omega)
  · by_cases c2:p=i
    · subst c2
      rw [if_neg (by omega),if_neg (by omega),if_pos rfl]
      rcases hl with hl | hl
      · omega
      · exact zfv hl
    · by_cases c3:p=i+1
      · subst c3
        rw [if_pos (by omega),if_neg (by omega),if_pos (by omega),Nat.add_sub_cancel]
        rcases hr with hr | hr
        · omega
        · exact Int.le_of_lt hr
      · rw [if_neg (by omega),if_pos (by omega),if_neg (by omega),if_pos (by omega)]
        exact h1 (p - 1) (by omega) (by omega)
structure SplitSP (l:List PlD) (a m b mid s:Nat):Prop where
  lo:a≤s
  hi:s≤m
  him:s≤mid
  ge:m≤mid+m - s
  le:mid+m - s≤b
  cl:s=a∨mid+m - s=b∨zbj (l.getD (s - 1) zaw) (l.getD (mid+m - s) zaw)≤0
  cr:s=m∨s=mid∨zbj (l.getD (mid+m - 1 - s) zaw) (l.getD s zaw) < 0
theorem zn6 {l l1:List PlD} {a m b mid s:Nat} (h1:zaB l a m) (h2:zaB l m b) (p:SplitSP l a m b mid s) (t:zh0 l l1 s m (mid+m - s)) :
    zaB l1 a s∧zaB l1 s mid∧zaB l1 mid (mid+m - s)∧zaB l1 (mid+m - s) b:=by
  obtain ⟨lo,hi,him,ge,le,cl,cr⟩:=p
  refine ⟨fun k g1 g2=>?_,fun k g1 g2=>?_,fun k g1 g2=>?_,fun k g1 g2=>?_⟩
  · rw [t,t,if_neg (by omega),if_neg (by omega)]
    exact h1 k g1 (by omega)
  · rw [t,t,if_pos (by omega),if_pos (by omega),if_pos (by omega),if_pos (by omega),show k - 1+(m - s)=k+(m - s) - 1 by omega]
    exact h2 _ (by omega) (by omega)
  · rw [t,t,if_pos (by omega),if_neg (by omega),if_pos (by omega),if_neg (by omega),show k - 1 - (mid+m - s - m)=k - (mid+m - s - m) - 1 by omega]
    exact h1 _ (by omega) (by omega)
  · rw [t,t,if_neg (by omega),if_neg (by omega)]
    exact h2 k (by omega) g2
theorem zoa {l l1:List PlD} {a m b mid s:Nat} (h1:zaB l a m) (h2:zaB l m b) (p:SplitSP l a m b mid s) (t:zh0 l l1 s m (mid+m - s)) {i j:Nat} (hi:a≤i) (him:i < mid) (hj:mid≤j) (hjb:j < b) :
    zbj (l1.getD i zaw) (l1.getD j zaw)≤0:=by
  obtain ⟨lo,hi2,him2,ge,le,cl,cr⟩:=p
  rw [t,t]
  by_cases c1:s≤i
  · -- from behind m
    rw [if_pos (by omega),if_pos (by omega)]
    by_cases c2:j < mid+m - s
    · rw [if_pos (by omega),if_neg (by omega)]
      rcases cr with cr | cr | cr
      · omega
      · omega
      · exact zcq (zbv h2 (i:=i+(m - s)) (j:=mid+m - 1 - s) (by omega) (by omega) (by omega)) (zcq (Int.le_of_lt cr) (zbv h1 (i:=s) (by omega) (by omega) (by omega)))
    · rw [if_neg (by omega)]
      exact zbv h2 (by omega) (by omega) hjb
  · rw [if_neg (by omega)]
    by_cases c2:j < mid+m - s
    · rw [if_pos (by omega),if_neg (by omega)]
      exact zbv h1 hi (by omega) (by omega)
    · rw [if_neg (by omega)]
      rcases cl with cl | cl | cl
      · omega
      · omega
      · exact zcq (zbv h1 (i:=i) (j:=s - 1) hi (by omega) (by omega)) (zcq cl (zbv h2 (i:=mid+m - s) (by omega) (by omega) hjb))
theorem zk8 {l1 l2 l3:List PlD} {a mid b:Nat} (hc:∀ i j,a≤i→i < mid→mid≤j→j < b→zbj (l1.getD i zaw) (l1.getD j zaw)≤0) (x:MvP l1 l2 a mid) (y:MvP l2 l3 mid b) (h2:zaB l2 a mid) (h3:zaB l3 mid b):zaB l3 a b:=by
  intro p h4 h5
  by_cases c1:p < mid
  · rw [y.out _ (.inl (by omega)),y.out _ (.inl c1)]
    exact h2 p h4 c1
  · by_cases c2:p=mid
    · subst c2
      obtain ⟨j,g1,g2,g3⟩:=y.wit p (by omega) h5
      obtain ⟨i,f1,f2,f3⟩:=x.wit (p - 1) (by omega) (by omega)
      rw [y.out _ (.inl (by omega)),g3,x.out j (.inr (by omega)),f3]
      exact hc i j f1 f2 g1 g2
    · exact h3 p (by omega) h5
def zu4 (l l1:List PlD) (a k:Nat):Prop:=∀ x,l1.getD x zaw=if a≤x∧x < k then l.getD (x+1) zaw else if x=k then l.getD a zaw else l.getD x zaw
theorem zp9 (l:List PlD) (a:Nat):zu4 l l a a:=by
  intro x
  repeat' split
  all_goals first | rfl | (exfalso; omega) | (congr 1; done) | (subst x; rfl)
theorem zsF {l l1:List PlD} {a k:Nat} (h:zu4 l l1 a k) (hak:a≤k) (hk:k+1 < l1.length):zu4 l (zby l1 k (k+1)) a (k+1):=by
  intro x
  rw [zcu (by omega) (by omega),h x,h k,h (k+1)]
  repeat' split
  all_goals first | rfl | (exfalso; omega) | (congr 1; omega)
def zjh (l l1:List PlD) (m k:Nat):Prop:=∀ x,l1.getD x zaw=if x=k then l.getD m zaw else if k < x∧x≤m then l.getD (x - 1) zaw else l.getD x zaw
theorem zl8 (l:List PlD) (m:Nat):zjh l l m m:=by
  intro x
  repeat' split
  all_goals first | rfl | (exfalso; omega) | (subst x; rfl)
theorem zng {l l1:List PlD} {m k:Nat} (h:zjh l l1 m k) (hk0:0 < k) (hkm:k≤m) (hm:m < l1.length):zjh l (zby l1 k (k - 1)) m (k - 1):=by
  intro x
  rw [zcu (by omega) (by omega),h x,h k,h (k - 1)]
  repeat' split
  all_goals first | rfl | (exfalso; omega) | (congr 1; omega)
structure SymInvP (l:List PlD) (a m b mid s r:Nat):Prop where
  sr:s≤r
  le1:m≤mid→a≤s∧r≤m
  le2:mid < m→mid+m - b≤s∧r≤mid
  cl:(s=a∧m≤mid)∨(mid < m∧s=mid+m - b)∨zbj (l.getD (s - 1) zaw) (l.getD (mid+m - s) zaw)≤0
  cr:(r=m∧m≤mid)∨(mid < m∧r=mid)∨zbj (l.getD (mid+m - 1 - r) zaw) (l.getD r zaw) < 0
theorem zuI {l:List PlD} {a m b mid:Nat} (ham:a < m) (h:m≤mid):SymInvP l a m b mid a m:=⟨by omega,fun _=>by omega,fun _=>by omega,.inl ⟨rfl,h⟩,.inl ⟨rfl,h⟩⟩
theorem zvo {l:List PlD} {a m b mid:Nat} (hmb:m < b) (h:mid < m):SymInvP l a m b mid (mid+m - b) mid:=⟨by omega,fun _=>by omega,fun _=>by omega,.inr (.inl ⟨h,rfl⟩),.inr (.inl ⟨h,rfl⟩)⟩
theorem zsR {l:List PlD} {a m b mid s r c:Nat} (h:SymInvP l a m b mid s r) (h1:s≤c) (h2:c < r) (hc:¬ zbj (l.getD (mid+m - 1 - c) zaw) (l.getD c zaw) < 0):SymInvP l a m b mid (c+1) r:=by
  refine ⟨by omega,fun g=>?_,fun g=>?_,.inr (.inr ?_),h.cr⟩
  · have:=h.le1 g; omega
  · have:=h.le2 g; omega
  · rw [Nat.add_sub_cancel,show mid+m - (c+1)=mid+m - 1 - c by omega]
    exact zfv hc
theorem zm5 {l:List PlD} {a m b mid s r c:Nat} (h:SymInvP l a m b mid s r) (h1:s≤c) (h2:c < r) (hc:zbj (l.getD (mid+m - 1 - c) zaw) (l.getD c zaw) < 0):SymInvP l a m b mid s c:=by
  refine ⟨h1,fun g=>?_,fun g=>?_,h.cl,.inr (.inr hc)⟩
  · have:=h.le1 g; omega
  · have:=h.le2 g; omega
theorem zje {l:List PlD} {a m b mid s:Nat} (h:SymInvP l a m b mid s s) (ham:a < m) (hmb:m < b) (hm1:2*mid≤a+b) (hm2:a+b≤2*mid+1):SplitSP l a m b mid s:=by
  obtain ⟨sr,le1,le2,cl,cr⟩:=h
  rcases Nat.lt_or_ge mid m with g | g
  · obtain ⟨f1,f2⟩:=le2 g
    refine ⟨by omega,by omega,f2,by omega,by omega,?_,?_⟩
    · rcases cl with ⟨e,_⟩ | ⟨_,e⟩ | e
      · exact .inl e
      · exact .inr (.inl (by omega))
      · exact .inr (.inr e)
    · rcases cr with ⟨e,_⟩ | ⟨_,e⟩ | e
      · exact .inl e
      · exact .inr (.inl e)
      · exact .inr (.inr e)
  · obtain ⟨f1,f2⟩:=le1 g
    refine ⟨f1,f2,by omega,by omega,by omega,?_,?_⟩
    · rcases cl with ⟨e,_⟩ | ⟨_,e⟩ | e
      · exact .inl e
      · exact .inr (.inl (by omega))
      · exact .inr (.inr e)
    · rcases cr with ⟨e,_⟩ | ⟨_,e⟩ | e
      · exact .inl e
      · exact .inr (.inl e)
      · exact .inr (.inr e)
theorem zs1 {l:List PlD} {a m b mid s r c:Nat} (h:SymInvP l a m b mid s r) (h1:s≤c) (h2:c < r) (ham:a < m) (hmb:m < b) (hm1:2*mid≤a+b) (hm2:a+b≤2*mid+1):c+1≤m∧m≤mid+m - 1 - c∧mid+m - 1 - c < b∧c+1≤mid+m:=by
  rcases Nat.lt_or_ge mid m with g | g
  · obtain ⟨f1,f2⟩:=h.le2 g
    omega
  · obtain ⟨f1,f2⟩:=h.le1 g
    omega
theorem zdg {l l':List PlD} {a b:Nat} (h:zaB l a b) (he:∀ k,a≤k→k < b→l'.getD k zaw=l.getD k zaw):zaB l' a b:=by
  intro k h1 h2
  rw [he k (by omega) h2,he (k - 1) (by omega) (by omega)]
  exact h k h1 h2
theorem zuo {l:List PlD} {s m e:Nat} (hs:s≤m) (he:m≤e) (hl:e≤l.length):l=l.take s++((l.take m).drop s++((l.take e).drop m++l.drop e)):=by
  apply List.ext_getElem?
  intro k
  simp only [List.getElem?_append,List.length_take,List.length_drop,List.getElem?_take,List.getElem?_drop]
  repeat' split
  all_goals first | rfl | (exfalso; omega) | (congr 1; omega)
theorem zwQ {l l1:List PlD} {s m e:Nat} (t:zh0 l l1 s m e) (hs:s≤m) (he:m≤e) (hl:e≤l.length) (hlen:l1.length=l.length):l1=l.take s++((l.take e).drop m++((l.take m).drop s++l.drop e)):=by
  refine ziQ (by simp only [List.length_append,List.length_take,List.length_drop]; omega) (fun k=>?_)
  rw [t k]
  simp only [List.getD_eq_getElem?_getD,List.getElem?_append,List.length_take,List.length_drop,List.getElem?_take,List.getElem?_drop]
  repeat' split
  all_goals first | rfl | (exfalso; omega) | (congr 2; omega)
theorem zrO {l l1:List PlD} {s m e:Nat} (t:zh0 l l1 s m e) (hs:s≤m) (he:m≤e) (hl:e≤l.length) (hlen:l1.length=l.length) (hne:∀ i j,s≤i→i < m→m≤j→j < e→zdw (l.getD i zaw)≠zdw (l.getD j zaw)):StabP l l1:=by
  intro x
  rw [zwQ t hs he hl hlen]
  conv=>rhs; rw [zuo hs he hl]
  simp only [List.filter_append]
  by_cases hu:((l.take m).drop s).filter (fun y=>zdw y == x)=[]
  · rw [hu]
    simp
  · have hv:((l.take e).drop m).filter (fun y=>zdw y == x)=[]:=by
      rw [List.filter_eq_nil_iff]
      intro y hy hyx
      apply hu
      rw [List.filter_eq_nil_iff]
      intro z hz hzx
      obtain ⟨j,hj⟩:=List.getElem?_of_mem hy
      obtain ⟨i,hi⟩:=List.getElem?_of_mem hz
      rw [List.getElem?_drop,List.getElem?_take] at hj hi
      split at hj
      · split at hi
        · rename_i g1 g2
          refine hne (s+i) (m+j) (by omega) g2 (by omega) g1 ?_
          rw [List.getD_eq_getElem?_getD,List.getD_eq_getElem?_getD,hj,hi]
          simp only [Option.getD_some]
          rw [beq_iff_eq] at hyx hzx
          rw [hyx,hzx]
        · cases hi
      · cases hj
    rw [hv]
    simp
theorem zpj {l l1:List PlD} {a m b mid s:Nat} (h1:zaB l a m) (h2:zaB l m b) (p:SplitSP l a m b mid s) (t:zh0 l l1 s m (mid+m - s)) (hb:b≤l.length) (hlen:l1.length=l.length):StabP l l1:=by
  obtain ⟨lo,hi,him,ge,le,cl,cr⟩:=p
  refine zrO t hi ge (by omega) hlen (fun i j g1 g2 g3 g4 e=>?_)
  rcases cr with cr | cr | cr
  · omega
  · omega
  · have f1:=zbv h2 (i:=j) (j:=mid+m - 1 - s) g3 (by omega) (by omega)
    have f2:=zbv h1 (i:=s) (j:=i) lo g1 g2
    exact ziJ (zjG (zjO f1 cr) f2) e.symm
theorem zrE {l l1:List PlD} {a b i k:Nat} (h2:zaB l (a+1) b) (hib:i≤b) (hl:i=a+1∨zbj (l.getD (i - 1) zaw) (l.getD a zaw) < 0) (hak:a≤k) (hk:k < i - 1) (u:zu4 l l1 a k):zbj (l1.getD (k+1) zaw) (l1.getD k zaw) < 0:=by
  rw [u,u,if_neg (by omega),if_neg (by omega),if_neg (by omega),if_pos rfl]
  rcases hl with hl | hl
  · omega
  · exact zjO (zbv h2 (i:=k+1) (j:=i - 1) (by omega) (by omega) (by omega)) hl
theorem zm7 {l l1:List PlD} {a m i k:Nat} (h1:zaB l a m) (hai:a≤i) (hr:i=m∨zbj (l.getD m zaw) (l.getD i zaw) < 0) (hik:i < k) (hkm:k≤m) (u:zjh l l1 m k):zbj (l1.getD k zaw) (l1.getD (k - 1) zaw) < 0:=by
  rw [u,u,if_pos rfl,if_neg (by omega),if_neg (by omega)]
  rcases hr with hr | hr
  · omega
  · exact zjG hr (zbv h1 (i:=i) (j:=k - 1) hai (by omega) (by omega))
def BlP (l:List PlD) (w n a:Nat):Prop:=∀ s,s % w=0→s < a→zaB l s (min (s+w) n)
theorem zlB {l l':List PlD} {w n a:Nat} (h:BlP l w n a) (ha:a % w=0) (hs:zaB l' a (min (a+w) n)) (ho:zem l l' a (min (a+w) n)) (b:Nat) (hb:b≤a+w):BlP l' w n b:=by
  intro s h1 h2
  rcases Nat.lt_trichotomy s a with g | g | g
  · have:=zpO h1 ha g
    exact zdg (h s h1 g) (fun k _ _=>ho k (.inl (by omega)))
  · subst g
    exact hs
  · have:=zpO ha h1 g
    omega
theorem zAr {l:List PlD} {w n:Nat} (h:BlP l w n n) (hw:n≤w):zaB l 0 n:=by
  intro k h1 h2
  exact h 0 (Nat.zero_mod _) (by omega) k h1 (by omega)
structure DblP (l:List PlD) (w n a:Nat):Prop where
  lo:BlP l (2*w) n a
  hi:∀ s,s % w=0→a≤s→s < n→zaB l s (min (s+w) n)
theorem zs2 {l:List PlD} {w n:Nat} (h:BlP l w n n):DblP l w n 0:=⟨fun s _ g=>absurd g (by omega),fun s h1 _ h2=>h s h1 h2⟩
theorem zkX {l:List PlD} {w n a:Nat} (h:DblP l w n a) (hw:0 < w) (ha:a % (2*w)=0) (hn:a+w < n):zaB l a (a+w)∧zaB l (a+w) (min (a+2*w) n):=by
  have:=zuA ha
  have g1:=h.hi a this.1 (by omega) (by omega)
  have g2:=h.hi (a+w) this.2 (by omega) hn
  rw [show min (a+w) n=a+w by omega] at g1
  rw [show min (a+w+w) n=min (a+2*w) n by omega] at g2
  exact ⟨g1,g2⟩
theorem znj {l l':List PlD} {w n a:Nat} (h:DblP l w n a) (hw:0 < w) (ha:a % (2*w)=0) (hs:zaB l' a (min (a+2*w) n)) (hm:MvP l l' a (min (a+2*w) n)):DblP l' w n (min (a+2*w) n):=by
  refine ⟨zlB h.lo ha hs hm.out _ (by omega),fun s h1 h2 h3=>?_⟩
  exact zdg (h.hi s h1 (by omega) h3) (fun k _ _=>hm.out k (.inr (by omega)))
theorem zxg {l:List PlD} {w n a:Nat} (h:DblP l w n a) (hw:0 < w) (ha:a % (2*w)=0) (hn:n≤a+w):BlP l (2*w) n n:=by
  intro s h1 h2
  rcases Nat.lt_trichotomy s a with g | g | g
  · exact h.lo s h1 g
  · subst g
    have:=h.hi s (zuA ha).1 (by omega) h2
    rw [show min (s+w) n=min (s+2*w) n by omega] at this
    exact this
  · have:=zpO ha h1 g
    omega
theorem zws {l:List PlD} {w n a:Nat} (h:DblP l w n a) (hn:n≤a):BlP l (2*w) n n:=fun s h1 h2=>h.lo s h1 (by omega)
theorem zhT:∀ {l:List PlD} {row:List Value},row.length=l.length*3→(∀ (i:Nat) (x:PlD),l[i]? = some x→cut row (i*3) 3=some x.cells)→row=zbk l
  | [],row,hl,_=>by
    have:row=[]:=List.length_eq_zero_iff.1 (by simpa using hl)
    rw [this]
    rfl
  | x::l,row,hl,h=>by
    have h0:=h 0 x rfl
    have hl2:row.length=l.length*3+3:=by rw [hl,List.length_cons]; omega
    unfold cut at h0
    rw [if_pos (by omega)] at h0
    simp only [Nat.zero_mul,List.drop_zero,Option.some.injEq] at h0
    have hr:=zhT (l:=l) (row:=row.drop 3) (by rw [List.length_drop]; omega) (fun i y hy=>by
      have hi:=(List.getElem?_eq_some_iff.1 hy).1
      have g:=h (i+1) y hy
      unfold cut at g ⊢
      rw [if_pos (by omega)] at g
      rw [if_pos (by rw [List.length_drop]; omega),List.drop_drop,show 3+i*3=(i+1)*3 by omega]
      exact g)
    have e:row=row.take 3++row.drop 3:=(List.take_append_drop 3 row).symm
    rw [e,h0,hr]
    rfl
structure EmpP (h:Heap) (v:Value):Prop where
  sl:Sl Rep.placed h v []
  no:v=.slice none 0 0∨∃ B o,v=.slice (some ⟨B,o,none⟩) 0 0
theorem EmpP.nil {h:Heap}:EmpP h (.slice none 0 0):=⟨Sl.nil,.inl rfl⟩
theorem EmpP.mono {h h':Heap} {v:Value} (f:EmpP h v) (i:Inc h h'):EmpP h' v:=⟨f.sl.mono i,f.no⟩
theorem EmpP.lay {h:Heap} {v:Value} (f:EmpP h v) (bs:List Blk) (w:Nat):EmpP (h.lay bs w) v:=⟨f.sl.lay bs w,f.no⟩
theorem EmpP.over {h1 h2:Heap} {v:Value} {bs:List Blk} {w:Nat} (f:EmpP h1 v) (x:Ext (h1.lay bs w) h2):EmpP h2 v:=⟨f.sl.over x,f.no⟩
def zCc (h0 h:Heap) (u:TypeId) (v:Value) (s:List PlD):Prop :=
  (s=[]∧EmpP h v)∨∃ A,v=.slice (some ⟨A,0,none⟩) s.length (G*3+s.length)∧Holds h A (.row (zbk s) u false)∧h0.size≤A∧s≠[]
theorem zsU {h0 h:Heap} {u:TypeId} {A:Nat} {v:Value} {l:List PlD} (f:Ow Rep.placed h0 h u A v l):zCc h0 h u v l:=by
  rcases f with ⟨e1,rfl,e3⟩ | ⟨row,rfl,e2,e3,e4,e5,e6,e7,e8⟩
  · refine .inl ⟨rfl,?_,?_⟩
    · have f2:Ow Rep.placed h0 h u A v []:=.inl ⟨e1,rfl,e3⟩
      exact f2.sl (by decide)
    · rcases e3 with e3 | ⟨B,o,e3,_⟩
      · exact .inl e3
      · exact .inr ⟨B,o,e3⟩
  · refine .inr ⟨A,rfl,⟨e4,?_⟩,e3,e2⟩
    have:row=zbk l:=zhT e6 (fun i x hx=>by
      obtain ⟨cs,g1,g2⟩:=e8 i x hx
      have g2:cs=x.cells:=g2
      rw [← g2]
      exact g1)
    rw [← this]
    exact e5
theorem zzd {h:Heap} {A o:Nat} {l s:List PlD} {u:TypeId} {c:Nat} {ro:Bool} (q:Holds h A (.row (zbk l) u ro)) (hc:zmJ 3 s.length c) (hn:s.length≤100000) (hs:∀ (i:Nat) (x:PlD),s[i]? = some x→l[o+i]? = some x):Sl Rep.placed h (.slice (some ⟨A,o*3,none⟩) s.length c) s:=by
  refine .inr ⟨A,o*3,c,zbk l,u,ro,rfl,(Nat.le_trans hn (by decide)),hc,q.lt,q.get,fun i x hx=>⟨x.cells,?_,rfl⟩⟩
  show cut (zbk l) (o*3+i*3) 3=_
  rw [← Nat.add_mul]
  exact zm9 (hs i x hx)
end Go.Am
namespace Go.Proofs.YtemapihoobmonaaGreatDoor
open Go.Am
set_option linter.unusedSimpArgs false
set_option linter.unusedVariables false
set_option maxRecDepth 100000
set_option maxHeartbeats 0
theorem zlk (a b:PlD) (ha:a.light=true) (hb:b.light=true) (h:Heap) (K:Value→Heap→Prop)
    (hk:∀ h',Ext h h'→K (.int .i64 (zbj a b)) h'):Ok Tryz.prog tab ov 85 [a.val,b.val] h K:=by
  rw [zaa h]
  have z:=Ext.refl h
  have ha:=of_decide_eq_true ha
  have hb:=of_decide_eq_true hb
  have hw:IntKind.i64.wrap (a.at_ - b.at_)=a.at_ - b.at_:=zad (by omega) (by omega)
  have hc0:∀ x:PlD,x.cells[0]? = some (.int .i64 x.at_):=fun _=>rfl
  refine Ok.into rfl zxz (zaD N85) rfl (m:=8) rfl ?_
  repeat' ( simp -implicitDefEqProofs only [syms,symx,seval,c85,zmY,hc0])
  rw [hw]
  exact hk _ (z.upW _ _ (by omega))
theorem zgA (l:List PlD) (A c a b:Nat) (h hs:Heap) (z:Ext h hs) (hA:h.size≤A) (q:Holds hs A (.row (zbk l) 133 false)) (hab:a≤b) (hb:b≤l.length) (hn:l.length≤100000) (hlt:∀ x∈l,x.light=true) (K:Value→Heap→Prop)
    (hk:∀ h' l',Ext h h'→Holds h' A (.row (zbk l') 133 false)→l'.Perm l→StabP l l'→zaB l' a b→zem l l' a b→K undef h'):Ok Tryz.prog tab ov 153 [.slice (some ⟨A,0,none⟩) l.length c,.int .i64 a,.int .i64 b,.func (.func 85) ⟨[]⟩ ⟨[]⟩] hs K:=by
  rw [zaa hs]
  have hw0:IntKind.i64.wrap ((a:Int)+1)=((a+1:Nat):Int):=by rw [zad (by omega) (by omega)]; omega
  refine Ok.into rfl znK (zaD N153) rfl (m:=49) rfl ?_
  simp -implicitDefEqProofs only [syms,symx,seval,c153]
  rw [hw0]
  obtain ⟨I1,hI1⟩:∃ I:Nat→Env→Heap→Prop,I=(fun n e h'=>∃ (i:Nat) (l1:List PlD) (h1:Heap),h'=h1.lay [] h1.low∧Ext h h1∧(n=b - i∧a < i∧(i≤b∨(i=a+1∧l1=l))∧l1.Perm l∧StabP l l1∧zaB l1 a i∧zem l l1 a i∧Holds h1 A (.row (zbk l1) 133 false))∧∃ J:Nat→Value,e=(.slice (some ⟨A,0,none⟩) l.length c::.int .i64 a::.int .i64 b::.func (.func 85) ⟨[]⟩ ⟨[]⟩::jr J 4 4 (.int .i64 i::jr J 9 44 ([])))):=⟨_,rfl⟩
  refine zaC I1 _ (by rw [hI1]; exact ⟨a+1,l,_,rfl,z,⟨rfl,by omega,.inr ⟨rfl,rfl⟩,List.Perm.refl _,StabP.refl _,fun k g1 g2=>by omega,fun k _=>rfl,q⟩,junk (by kernel_rfl)⟩) ?_
  intro n e h' hin
  rw [hI1] at hin
  obtain ⟨i,l1,h1',rfl,z,hinv,J,rfl⟩:=hin
  clear q
  obtain ⟨rfl,hai,hib,hp1,hst1,hso1,hsa1,q⟩:=hinv
  have hw:IntKind.i64.wrap ((i:Int)+1)=((i+1:Nat):Int):=by rw [zad (by omega) (by omega)]; omega
  simp -implicitDefEqProofs only [syms,symx,seval,c153]
  refine zar (fun hlt1=>?_) (fun hlt1=>?_)
  rotate_left
  · simp -implicitDefEqProofs only [syms,symx,seval,c153,zA4]
    repeat' ((first | ((with_reducible first | apply zar | apply zd9 | apply ze2 | apply zeP | apply zf0) <;> intro _) | ((with_reducible refine ⟨z.grw.lay _ _,?_⟩); (intro _ h' zz x _); (try simp only [zat,List.append_nil] at x); (replace z:=zz); (clear zz); rw [zaa h'])) <;> simp -implicitDefEqProofs only [syms,symx,seval,c153])
    refine hk _ _ (z.upW _ _ (by omega)) (q.on _ _) hp1 hst1 (fun k g1 g2=>hso1 k g1 (by omega)) (fun k g=>?_)
    rcases hib with hib | ⟨_,rfl⟩
    · exact hsa1 k (by omega)
    · rfl
  have hl1:=hp1.length_eq
  have hlt1':=zck hlt hp1
  repeat' ( simp -implicitDefEqProofs only [syms,symx,seval,c153])
  obtain ⟨I2,hI2⟩:∃ I:Nat→Env→Heap→Prop,I=(fun n e h'=>∃ (j:Nat) (l2:List PlD) (h1:Heap),h'=h1.lay [] h1.low∧Ext h h1∧(n=j - a∧a≤j∧j≤i∧l2.Perm l∧StabP l l2∧zna l2 a i j∧zem l l2 a (i+1)∧Holds h1 A (.row (zbk l2) 133 false))∧∃ J:Nat→Value,e=(.slice (some ⟨A,0,none⟩) l.length c::.int .i64 a::.int .i64 b::.func (.func 85) ⟨[]⟩ ⟨[]⟩::jr J 4 4 (.int .i64 i::.int .i64 j::jr J 10 43 ([])))):=⟨_,rfl⟩
  refine zaC I2 _ (by rw [hI2]; exact ⟨i,l1,_,rfl,z,⟨rfl,by omega,by omega,hp1,hst1,zol hso1,fun k g=>hsa1 k (by omega),q⟩,junk (by kernel_rfl)⟩) ?_
  intro n e h' hin
  rw [hI2] at hin
  obtain ⟨j,l2,h2',rfl,z,hinv,J,rfl⟩:=hin
  clear q hp1 hst1 hso1 hsa1 hl1 hlt1'
  obtain ⟨rfl,haj,hji,hp2,hst2,hsf,hsa2,q⟩:=hinv
  have hl2:=hp2.length_eq
  have hlt2:=zck hlt hp2
  simp -implicitDefEqProofs only [syms,symx,seval,c153]
  refine (zcb (by simp only [c153])) (z.upW _ _ (by omega)) ?_
  simp -implicitDefEqProofs only [syms,symx,seval,c153]
  refine zar (fun hgt=>?_) (fun hgt=>?_)
  rotate_left
  · repeat' (first | simp -implicitDefEqProofs only [syms,symx,seval,c153] | ((with_reducible refine ⟨z.grw.lay _ _,?_⟩); (intro _ h' zz x _); (try simp only [zat,List.append_nil] at x); (try replace q:=q.over x); (replace z:=zz); (clear zz); rw [zaa h']))
    rw [hw]
    (rw [hI1]; with_reducible refine zac (m:=_) ?_ ⟨i+1,l2,_,rfl,z,⟨rfl,by omega,.inl (by omega),hp2,hst2,zkW hsf hji (fun g=>absurd g (by omega)),hsa2,q⟩,junk (by kernel_rfl)⟩; omega)
  have hwj:IntKind.i64.wrap ((j:Int) - 1)=((j - 1:Nat):Int):=by rw [zad (by omega) (by omega)]; omega
  have hin:(0:Int)≤(j:Int)∧(j:Int) < (l.length:Int):=by omega
  have hin1:(0:Int)≤((j - 1:Nat):Int)∧((j - 1:Nat):Int) < (l.length:Int):=by omega
  have hld:=fun (bs:List Blk) (w:Nat)=>za4 (bs:=bs) (w:=w) q (zbq (l:=l2) (i:=j) (by omega))
  have hld1:=fun (bs:List Blk) (w:Nat)=>za4 (bs:=bs) (w:=w) q (zbq (l:=l2) (i:=j - 1) (by omega))
  repeat' ( simp -implicitDefEqProofs only [syms,symx,seval,c153,hwj,hin,hin1,and_self,if_true,↓hld,↓hld1,zbl])
  refine zlk _ _ (zb0 hlt2 (by omega)) (zb0 hlt2 (by omega)) _ _ (fun h' x=>?_)
  (( ((with_reducible refine zav ?_ ?_ ?_); (· exact (by (try simp only [lsz]); have:=z.size; omega)); (·  exact x )) ); replace z:=z.overW x (by (try simp only [lsz]); omega); (try replace q:=q.over x); rw [zaa h'])
  simp -implicitDefEqProofs only [syms,symx,seval,c153]
  refine zar (fun hc=>?_) (fun hc=>?_)
  rotate_left
  · repeat' (first | simp -implicitDefEqProofs only [syms,symx,seval,c153] | ((with_reducible refine ⟨z.grw.lay _ _,?_⟩); (intro _ h' zz x _); (try simp only [zat,List.append_nil] at x); (try replace q:=q.over x); (replace z:=zz); (clear zz); rw [zaa h']))
    rw [hw]
    (rw [hI1]; with_reducible refine zac (m:=_) ?_ ⟨i+1,l2,_,rfl,z,⟨rfl,by omega,.inl (by omega),hp2,hst2,zkW hsf hji (fun _=>zfv hc),hsa2,q⟩,junk (by kernel_rfl)⟩; omega)
  repeat' (first | simp -implicitDefEqProofs only [syms,symx,seval,c153] | ((with_reducible refine ⟨z.grw.lay _ _,?_⟩); (intro _ h' zz x _); (try simp only [zat,List.append_nil] at x); (try replace q:=q.over x); (replace z:=zz); (clear zz); rw [zaa h']))
  have hld:=fun (bs:List Blk) (w:Nat)=>za4 (bs:=bs) (w:=w) q (zbq (l:=l2) (i:=j) (by omega))
  have hld1:=fun (bs:List Blk) (w:Nat)=>za4 (bs:=bs) (w:=w) q (zbq (l:=l2) (i:=j - 1) (by omega))
  refine (zcb (by simp only [c153])) (z.upW _ _ (by omega)) ?_
  repeat' ( simp -implicitDefEqProofs only [syms,symx,seval,c153,hwj,hin,hin1,and_self,if_true,↓hld,↓hld1,zbl])
  refine zb6 q ziU (by omega) (fun h3 q3 c3=>?_)
  have hz:=z.size
  refine zbi (A:=A) (by kernel_rfl) (by rw [zag]; omega) (by omega) (by simpa only [zat,zag,List.append_nil,List.length_cons,List.length_nil,Nat.add_zero] using c3) ?_
  replace z:=(z.upW [] (h'.size+0) (by omega)).step c3 hA
  rw [zaa h3]
  clear q hld hld1
  repeat' ( simp -implicitDefEqProofs only [syms,symx,seval,c153,hwj,hin,hin1,and_self,if_true])
  refine zb6 q3 ziU (by rw [List.length_set]; omega) (fun h4 q4 c4=>?_)
  have hz:=z.size
  refine zbi (A:=A) (by kernel_rfl) (by rw [zag]; omega) (by omega) (by simpa only [zat,zag,List.append_nil,List.length_cons,List.length_nil,Nat.add_zero] using c4) ?_
  replace z:=(z.upW [] (h3.size+0) (by omega)).step c4 hA
  rw [zaa h4]
  clear q3
  repeat' (first | simp -implicitDefEqProofs only [syms,symx,seval,c153,hwj] | ((with_reducible refine ⟨z.grw.lay _ _,?_⟩); (intro _ h' zz x _); (try simp only [zat,List.append_nil] at x); (try replace q4:=q4.over x); (replace z:=zz); (clear zz); rw [zaa h']))
  replace q4:Holds _ A (.row (zbk (zby l2 j (j - 1))) 133 false):=q4
  (rw [hI2]; with_reducible refine zac (m:=_) ?_ ⟨j - 1,zby l2 j (j - 1),_,rfl,z,⟨rfl,by omega,by omega,(zfW (by omega) (by omega)).trans hp2,hst2.trans (zkw (by omega) (by omega) hc),zqb hsf (by omega) hji (by omega) hc,zmf hsa2 (by omega) hji (by omega),q4⟩,junk (by kernel_rfl)⟩; omega)
theorem zet (l:List PlD) (A c a b w:Nat) (fv:Value) (h hs:Heap) (z:Ext h hs) (hA:h.size≤A) (q:Holds hs A (.row (zbk l) 133 false)) (hab:a+w≤b) (hb:b+w≤l.length) (hn:l.length≤100000) (K:Value→Heap→Prop)
    (hk:∀ h' l',Ext h h'→Holds h' A (.row (zbk l') 133 false)→l'.Perm l→zfb l l' a b w→K undef h'):Ok Tryz.prog tab ov 213 [.slice (some ⟨A,0,none⟩) l.length c,.int .i64 a,.int .i64 b,.int .i64 w,fv] hs K:=by
  rw [zaa hs]
  refine Ok.into rfl zus (zaD N213) rfl (m:=33) rfl ?_
  simp -implicitDefEqProofs only [syms,symx,seval,c213]
  obtain ⟨I1,hI1⟩:∃ I:Nat→Env→Heap→Prop,I=(fun n e h'=>∃ (i:Nat) (l1:List PlD) (h1:Heap),h'=h1.lay [] h1.low∧Ext h h1∧(n=w - i∧i≤w∧l1.Perm l∧zfb l l1 a b i∧Holds h1 A (.row (zbk l1) 133 false))∧∃ J:Nat→Value,e=(.slice (some ⟨A,0,none⟩) l.length c::.int .i64 a::.int .i64 b::.int .i64 w::jr J 4 6 (.int .i64 i::jr J 11 27 ([])))):=⟨_,rfl⟩
  refine zaC I1 _ (by rw [hI1]; exact ⟨0,l,_,rfl,z,⟨rfl,by omega,List.Perm.refl _,zmD l a b,q⟩,junk (by kernel_rfl)⟩) ?_
  intro n e h' hin
  rw [hI1] at hin
  obtain ⟨i,l1,h1',rfl,z,hinv,J,rfl⟩:=hin
  clear q
  obtain ⟨rfl,hi,hp,hsw,q⟩:=hinv
  have hl1:=hp.length_eq
  have hw:IntKind.i64.wrap ((i:Int)+1)=((i+1:Nat):Int):=by rw [zad (by omega) (by omega)]; omega
  simp -implicitDefEqProofs only [syms,symx,seval,c213]
  refine zar (fun hlt=>?_) (fun hlt=>?_)
  rotate_left
  · repeat' ( simp -implicitDefEqProofs only [syms,symx,seval,c213])
    have hiw:i=w:=by omega
    subst hiw
    exact hk _ _ (z.upW _ _ (by omega)) (q.on _ _) hp hsw
  have hwa:IntKind.i64.wrap ((a:Int)+(i:Int))=((a+i:Nat):Int):=by rw [zad (by omega) (by omega)]; omega
  have hwb:IntKind.i64.wrap ((b:Int)+(i:Int))=((b+i:Nat):Int):=by rw [zad (by omega) (by omega)]; omega
  have hin:(0:Int)≤((a+i:Nat):Int)∧((a+i:Nat):Int) < (l.length:Int):=by omega
  have hin1:(0:Int)≤((b+i:Nat):Int)∧((b+i:Nat):Int) < (l.length:Int):=by omega
  have hld:=fun (bs:List Blk) (w:Nat)=>za4 (bs:=bs) (w:=w) q (zbq (l:=l1) (i:=a+i) (by omega))
  have hld1:=fun (bs:List Blk) (w:Nat)=>za4 (bs:=bs) (w:=w) q (zbq (l:=l1) (i:=b+i) (by omega))
  simp -implicitDefEqProofs only [syms,symx,seval,c213]
  refine (zcb (by simp only [c213])) (z.upW _ _ (by omega)) ?_
  repeat' ( simp -implicitDefEqProofs only [syms,symx,seval,c213,hwa,hwb,hin,hin1,and_self,if_true,↓hld,↓hld1,zbl])
  have hz:=z.size
  refine zb6 q ziU (by omega) (fun h3 q3 c3=>?_)
  refine zbi (A:=A) (by kernel_rfl) (by rw [zag]; omega) (by omega) (by simpa only [zat,zag,List.append_nil,List.length_cons,List.length_nil,Nat.add_zero] using c3) ?_
  replace z:=(z.upW [] (h1'.size+0) (by omega)).step c3 hA
  rw [zaa h3]
  clear q hld hld1
  repeat' ( simp -implicitDefEqProofs only [syms,symx,seval,c213,hwa,hwb,hin,hin1,and_self,if_true])
  refine zb6 q3 ziU (by rw [List.length_set]; omega) (fun h4 q4 c4=>?_)
  have hz:=z.size
  refine zbi (A:=A) (by kernel_rfl) (by rw [zag]; omega) (by omega) (by simpa only [zat,zag,List.append_nil,List.length_cons,List.length_nil,Nat.add_zero] using c4) ?_
  replace z:=(z.upW [] (h3.size+0) (by omega)).step c4 hA
  rw [zaa h4]
  clear q3
  repeat' (first | simp -implicitDefEqProofs only [syms,symx,seval,c213] | ((with_reducible refine ⟨z.grw.lay _ _,?_⟩); (intro _ h' zz x _); (try simp only [zat,List.append_nil] at x); (try replace q4:=q4.over x); (replace z:=zz); (clear zz); rw [zaa h']))
  rw [hw]
  replace q4:Holds _ A (.row (zbk (zby l1 (a+i) (b+i))) 133 false):=q4
  (rw [hI1]; with_reducible refine zac (m:=_) ?_ ⟨i+1,zby l1 (a+i) (b+i),_,rfl,z,⟨rfl,by omega,(zfW (by omega) (by omega)).trans hp,zoQ hsw hab (by omega) (by omega),q4⟩,junk (by kernel_rfl)⟩; omega)
theorem zs0 (l:List PlD) (A c a m b:Nat) (fv:Value) (h hs:Heap) (z:Ext h hs) (hA:h.size≤A) (q:Holds hs A (.row (zbk l) 133 false)) (ham:a < m) (hmb:m < b) (hb:b≤l.length) (hn:l.length≤100000) (K:Value→Heap→Prop)
    (hk:∀ h',Ext h h'→Holds h' A (.row (zbk (zfA l a m b)) 133 false)→(zfA l a m b).Perm l→K undef h'):Ok Tryz.prog tab ov 180 [.slice (some ⟨A,0,none⟩) l.length c,.int .i64 a,.int .i64 m,.int .i64 b,fv] hs K:=by
  rw [zaa hs]
  have hw1:IntKind.i64.wrap ((m:Int) - (a:Int))=((m - a:Nat):Int):=by rw [zad (by omega) (by omega)]; omega
  have hw2:IntKind.i64.wrap ((b:Int) - (m:Int))=((b - m:Nat):Int):=by rw [zad (by omega) (by omega)]; omega
  refine Ok.into rfl zu3 (zaD N180) rfl (m:=53) rfl ?_
  simp -implicitDefEqProofs only [syms,symx,seval,c180,hw1,hw2]
  obtain ⟨I1,hI1⟩:∃ I:Nat→Env→Heap→Prop,I=(fun n e h'=>∃ (i j:Nat) (l1:List PlD) (h1:Heap),h'=h1.lay [] h1.low∧Ext h h1∧(n=i+j∧0 < i∧0 < j∧i≤m∧m+j≤l.length∧l1.Perm l∧zjm (zfA l a m b) l1 m i j∧Holds h1 A (.row (zbk l1) 133 false))∧∃ J:Nat→Value,e=(.slice (some ⟨A,0,none⟩) l.length c::J 1::.int .i64 m::J 3::fv::jr J 5 5 (.int .i64 i::.int .i64 j::jr J 12 46 ([])))):=⟨_,rfl⟩
  refine zaC I1 _ (by rw [hI1]; exact ⟨m - a,b - m,l,_,rfl,z,⟨rfl,by omega,by omega,by omega,by omega,List.Perm.refl _,zm3 (by omega) (by omega) hb,q⟩,junk (by kernel_rfl)⟩) ?_
  intro n e h' hin
  rw [hI1] at hin
  obtain ⟨i,j,l1,h1',rfl,z,hinv,J,rfl⟩:=hin
  clear q
  obtain ⟨rfl,hi0,hj0,him,hjm,hp,htu,q⟩:=hinv
  have hl1:=hp.length_eq
  simp -implicitDefEqProofs only [syms,symx,seval,c180]
  have hwmi:IntKind.i64.wrap ((m:Int) - (i:Int))=((m - i:Nat):Int):=by rw [zad (by omega) (by omega)]; omega
  refine ze2 (fun hne=>?_) (fun heq=>?_)
  rotate_left
  · have hij:i=j:=by omega
    subst hij
    repeat' ( simp -implicitDefEqProofs only [syms,symx,seval,c180,hwmi])
    have key:=fun K hk=>zet l1 A c (m - i) m i fv h (h1'.lay [] h1'.low) (z.upW _ _ (by omega)) hA (q.on _ _) (by omega) (by omega) (by omega) K hk
    simp only [hl1] at key
    refine key _ (fun h' l' x q' hp' hs'=>?_)
    have hfin:l'=zfA l a m b:=ziQ (by rw [zgf,hp'.length_eq,hl1]) (fun k=>(zs8 htu him hs' k).symm)
    subst hfin
    rw [zaa h']
    repeat' ( simp -implicitDefEqProofs only [syms,symx,seval,c180])
    exact hk _ (x.upW _ _ (by omega)) (q'.on _ _) (hp'.trans hp)
  simp -implicitDefEqProofs only [syms,symx,seval,c180]
  refine zar (fun hgt=>?_) (fun hgt=>?_)
  · repeat' ( simp -implicitDefEqProofs only [syms,symx,seval,c180,hwmi])
    have key:=fun K hk=>zet l1 A c (m - i) m j fv h (h1'.lay [] h1'.low) (z.upW _ _ (by omega)) hA (q.on _ _) (by omega) (by omega) (by omega) K hk
    simp only [hl1] at key
    refine key _ (fun h' l' x q' hp' hs'=>?_)
    replace z:=x
    rw [zaa h']
    have hwij:IntKind.i64.wrap ((i:Int) - (j:Int))=((i - j:Nat):Int):=by rw [zad (by omega) (by omega)]; omega
    repeat' ( simp -implicitDefEqProofs only [syms,symx,seval,c180,hwij])
    (rw [hI1]; with_reducible refine zac (m:=_) ?_ ⟨i - j,j,l',_,rfl,z,⟨rfl,by omega,by omega,by omega,by omega,hp'.trans hp,zp7 htu him (by omega) hs',q'⟩,junk (by kernel_rfl)⟩; omega)
  · have hwmj:IntKind.i64.wrap ((m:Int)+(j:Int))=((m+j:Nat):Int):=by rw [zad (by omega) (by omega)]; omega
    have hwmji:IntKind.i64.wrap (((m+j:Nat):Int) - (i:Int))=((m+j - i:Nat):Int):=by rw [zad (by omega) (by omega)]; omega
    repeat' ( simp -implicitDefEqProofs only [syms,symx,seval,c180,hwmi,hwmj,hwmji])
    have key:=fun K hk=>zet l1 A c (m - i) (m+j - i) i fv h (h1'.lay [] h1'.low) (z.upW _ _ (by omega)) hA (q.on _ _) (by omega) (by omega) (by omega) K hk
    simp only [hl1] at key
    refine key _ (fun h' l' x q' hp' hs'=>?_)
    replace z:=x
    rw [zaa h']
    have hwji:IntKind.i64.wrap ((j:Int) - (i:Int))=((j - i:Nat):Int):=by rw [zad (by omega) (by omega)]; omega
    repeat' ( simp -implicitDefEqProofs only [syms,symx,seval,c180,hwji])
    (rw [hI1]; with_reducible refine zac (m:=_) ?_ ⟨i,j - i,l',_,rfl,z,⟨rfl,by omega,by omega,by omega,by omega,hp'.trans hp,znu htu him (by omega) hs',q'⟩,junk (by kernel_rfl)⟩; omega)
end Go.Proofs.YtemapihoobmonaaGreatDoor
