/- Slices and pointers by what they hold. No condition. -/
import Derived.Test.YtdplfgoifjjniaaGreatDoorG11
set_option linter.unusedVariables false
namespace Go.Am
structure aK (α:Type) where
 k:Nat
 R:Heap→List Value→α→Prop
 len:∀ h cs x,R h cs x→cs.length=k
 mono:∀ h h' cs x,cP h h'→R h cs x→R h' cs x
 gK:∀ h cs x,R h cs x→cs.all one=true
def eC (h:Heap) (p:Value) (cs:List Value):Prop:=∃ A o row u ro,p=.pointer (some ⟨A,o,none⟩)∧A < h.size∧h.get A=some (.row row u ro)∧cut row o cs.length=some cs
def zDK (k n c:Nat):Prop:=(c < G∧n≤c)∨(G≤c∧c / G=k∧n≤c % G)
def Sl {α:Type} (r:aK α) (h:Heap) (v:Value) (l:List α):Prop :=
 (v=.slice none 0 0∧l=[])∨∃ A o c row u ro,v=.slice (some ⟨A,o,none⟩) l.length c∧l.length≤maxLen∧zDK r.k l.length c∧A < h.size∧h.get A=some (.row row u ro) ∧
  ∀ (i:Nat) (x:α),l[i]? = some x→∃ cs,cut row (o+i*r.k) r.k=some cs∧r.R h cs x
theorem Holds.mono {h h':Heap} {A:Nat} {cs:List Value} {u:TypeId} {ro:Bool} (hh:Holds h A (.row cs u ro)) (i:cP h h'):Holds h' A (.row cs u ro):=⟨Nat.lt_of_lt_of_le hh.lt i.size,i.at hh.lt hh.get⟩
theorem Holds.over {h1 h2:Heap} {A:Nat} {b:bh} {l:List bh} {w:Nat} (f:Holds h1 A b) (x:Ext (h1.lay l w) h2):Holds h2 A b:=⟨Nat.lt_of_lt_of_le f.lt x.inc.jh.size,(x.get A (by rw [bB];have:=f.lt;omega)).trans (f.lay l w)⟩
section
variable {α:Type} {r:aK α} {h h' h1 h2:Heap} {v:Value} {l:List α}
theorem Sl.mono (f:Sl r h v l) (i:cP h h'):Sl r h' v l:=by
 rcases f with f|⟨A,o,c,row,u,ro,e1,e2,e3,e4,e5,e6⟩
 ·exact .inl f
 ·refine .inr ⟨A,o,c,row,u,ro,e1,e2,e3,Nat.lt_of_lt_of_le e4 i.size,i.at e4 e5,fun j x hj=>?_⟩
  obtain ⟨cs,g1,g2⟩:=e6 j x hj
  exact ⟨cs,g1,r.mono _ _ _ _ i g2⟩
theorem Sl.over {bs:List bh} {w:Nat} (f:Sl r h1 v l) (x:Ext (h1.lay bs w) h2):Sl r h2 v l:=f.mono x.inc.jh
theorem Sl.lay (f:Sl r h v l) (bs:List bh) (w:Nat):Sl r (h.lay bs w) v l:=f.mono (cP.lay h bs w)
theorem Sl.le (f:Sl r h v l):l.length≤maxLen:=by
 rcases f with ⟨_,rfl⟩|⟨A,o,c,row,u,ro,e1,e2,_⟩
 ·exact Nat.zero_le _
 ·exact e2
theorem Sl.nil:Sl r h (.slice none 0 0) []:=.inl ⟨rfl,rfl⟩
variable {P:Program} {T:bD} {ov:Ov} {K:Value→Heap→Prop} {t e:TypeId} {bs:List bh} {w:Nat}
theorem Sl.bd (f:Sl r h v l) (hd:T.desc t=some (.slice e)) (h2:Heap):bd T t v h2=some (.int .i64 l.length):=by
 rcases f with ⟨rfl,rfl⟩|⟨A,o,c,row,u,ro,rfl,_⟩
 ·simp [Am.bd,hd]
 ·simp [Am.bd,hd]
theorem Mz (f:Sl r h v l) (hd:T.desc t=some (.slice e)) (hk:K (.int .i64 l.length) h1):aU (Am.bd T t v h1) h1 K:=by rw [f.bd hd];exact hk
theorem zO (f:Sl r h1 v l) (hd:T.desc t=some (.slice e)) (hs:bO T e=some r.k) {kd:IntKind} {i:Int} (h0:0≤i) (hi:i < l.length) (hk:∀ x p cs,l[i.toNat]? = some x→r.R h1 cs x→eC h1 p cs→K p (h1.lay bs w)) :
 aU (fM T t v (.int kd i)) (h1.lay bs w) K:=by
 rcases f with ⟨rfl,rfl⟩|⟨A,o,c,row,u,ro,rfl,e2,e3,e4,e5,e6⟩
 ·simp at hi;omega
 ·have aS:i.toNat < l.length:=by omega
  obtain ⟨cs,g1,g2⟩:=e6 i.toNat l[i.toNat] (by simp [aS])
  unfold fM
  simp only [hd]
  rw [if_pos ⟨h0,hi⟩,hs]
  refine hk _ _ cs (by simp [aS]) g2 ⟨A,_,row,u,ro,rfl,e4,e5,?_⟩
  rw [r.len _ _ _ g2]
  exact g1
theorem MN {p:Value} {cs:List Value} {n:Nat} (f:eC h1 p cs) (hg:aq T t=some true) (hs:bO T t=some n) (hn:cs.length=n) (hk:K (.agg ⟨cs⟩) (h1.lay bs w)):aU (dz T t p (h1.lay bs w)) (h1.lay bs w) K:=by
 obtain ⟨A,o,row,u,ro,rfl,hA,df,hc⟩:=f
 unfold dz
 simp only [hg,hs,Option.bind_some,if_true,gL]
 rw [Bi _ _ _ hA,df]
 simp only
 rw [← hn,hc]
 exact hk
theorem fX {p x:Value} (f:eC h1 p [x]) (hg:aq T t=some false) (hk:K x (h1.lay bs w)):aU (dz T t p (h1.lay bs w)) (h1.lay bs w) K:=by
 obtain ⟨A,o,row,u,ro,rfl,hA,df,hc⟩:=f
 unfold dz
 simp only [hg,Option.bind_some,Bool.false_eq_true,if_false,gL]
 rw [Bi _ _ _ hA,df]
 simp only
 rw [show (1:Nat)=[x].length from rfl,hc]
 exact hk
theorem zs9 {row cs:List Value} {o off n:Nat} (hc:cut row o cs.length=some cs) (hb:off+n≤cs.length):cut row (o+off) n=some ((cs.drop off).take n):=by
 unfold cut at hc ⊢
 split at hc
 ·rename_i hle
  rw [if_pos (by omega)]
  simp only [Option.some.injEq] at hc ⊢
  rw [← hc,List.drop_take,List.take_take,List.drop_drop]
  congr 1
  omega
 ·cases hc
theorem zCw {p:Value} {cs:List Value} {s i off:Nat} (n:Nat) (f:eC h1 p cs) (jy:∀ A o,cV T s (.pointer (some ⟨A,o,none⟩)) i=some (.pointer (some ⟨A,o+off,none⟩))) (hb:off+n≤cs.length) (hk:∀ q,eC h1 q ((cs.drop off).take n)→K q (h1.lay bs w)) :
 aU (cV T s p i) (h1.lay bs w) K:=by
 obtain ⟨A,o,row,u,ro,rfl,hA,df,hc⟩:=f
 rw [jy]
 refine hk _ ⟨A,_,row,u,ro,rfl,hA,df,?_⟩
 have hl:((cs.drop off).take n).length=n:=by rw [List.length_take,List.length_drop];omega
 rw [hl]
 exact zs9 hc hb
theorem zwI {p:Value} {cs:List Value} {s m z:Nat} {kd:IntKind} {i:Int} (f:eC h1 p cs) (NF:∀ A o ik i,fM T s (.pointer (some ⟨A,o,none⟩)) (.int ik i)=if 0≤i∧i < (m:Int) then some (.pointer (some ⟨A,o+i.toNat*z,none⟩)) else none) (h0:0≤i) (hi:i < m) (hb:m*z≤cs.length)
 (hk:∀ q,eC h1 q ((cs.drop (i.toNat*z)).take z)→K q (h1.lay bs w)):aU (fM T s p (.int kd i)) (h1.lay bs w) K:=by
 obtain ⟨A,o,row,u,ro,rfl,hA,df,hc⟩:=f
 rw [NF,if_pos ⟨h0,hi⟩]
 have hle:i.toNat*z+z≤cs.length:=by
  calc i.toNat*z+z=(i.toNat+1)*z:=by rw [Nat.succ_mul]
   _≤m*z:=Nat.mul_le_mul_right _ (by omega)
   _≤cs.length:=hb
 refine hk _ ⟨A,_,row,u,ro,rfl,hA,df,?_⟩
 have hl:((cs.drop (i.toNat*z)).take z).length=z:=by rw [List.length_take,List.length_drop];omega
 rw [hl]
 exact zs9 hc hle
end
/-! ### The usual cells -/
abbrev aK.str:aK ByteArray:={ k:=1,R:=fun _ cs x=>cs=[.string x],len:=by rintro _ _ _ rfl;rfl,mono:=fun _ _ _ _ _ h=>h,gK:=by rintro _ _ _ rfl;rfl }
abbrev aK.int:aK Int:={ k:=1,R:=fun _ cs x=>cs=[.int .i64 x],len:=by rintro _ _ _ rfl;rfl,mono:=fun _ _ _ _ _ h=>h,gK:=by rintro _ _ _ rfl;rfl }
abbrev aK.bool:aK Bool:={ k:=1,R:=fun _ cs x=>cs=[.bool x],len:=by rintro _ _ _ rfl;rfl,mono:=fun _ _ _ _ _ h=>h,gK:=by rintro _ _ _ rfl;rfl }
abbrev aK.sl {α:Type} (a:aK α):aK (List α) :=
 { k:=1,R:=fun h cs x=>∃ v,cs=[v]∧Sl a h v x,len:=by rintro h cs x ⟨v,rfl,_⟩;rfl
   mono:=by rintro h h' cs x i ⟨v,e,f⟩;exact ⟨v,e,f.mono i⟩
   gK:=by
    rintro h cs x ⟨v,rfl,f⟩
    rcases f with ⟨rfl,_⟩|⟨A,o,c,row,u,ro,rfl,_⟩ <;> rfl }

/-! ### One block turned -/
theorem Ext.ku {A:Nat} {h h':Heap} (x:Ext h h'):fK A h h':=⟨x.size,fun B h1 _=>x.get B h1,by have:=x.low;omega⟩
theorem fK.trans {A:Nat} {a b c:Heap} (x:fK A a b) (y:fK A b c):fK A a c :=
 ⟨Nat.le_trans x.size y.size,fun B h1 h2=>(y.get B (Nat.lt_of_lt_of_le h1 x.size) h2).trans (x.get B h1 h2),by have:=x.low;have:=y.low;have:=x.size;omega⟩
theorem Ext.step {A:Nat} {h h1 h2:Heap} (z:Ext h h1) (c:fK A h1 h2) (hA:h.size≤A):Ext h h2 :=
 ⟨Nat.le_trans z.size c.size,fun B hB=>(c.get B (Nat.lt_of_lt_of_le hB z.size) (by omega)).trans (z.get B hB),by have:=z.low;have:=z.size;have:=c.low;omega⟩
theorem Ext.dI {A:Nat} {h h1 h2:Heap} {bs:List bh} {w:Nat} (z:Ext h h1) (c:fK A (h1.lay bs w) h2) (hA:h.size≤A) (hw:min h1.low h1.size≤w):Ext h h2:=(z.aw bs w hw).step c hA
theorem Holds.step {A B:Nat} {h1 h2:Heap} {b:bh} (q:Holds h1 B b) (c:fK A h1 h2) (aO:B≠A):Holds h2 B b:=⟨Nat.lt_of_lt_of_le q.lt c.size,(c.get B q.lt aO).trans q.get⟩
theorem Holds.bR {A B:Nat} {h1 h2:Heap} {b:bh} {bs:List bh} {w:Nat} (q:Holds h1 B b) (c:fK A (h1.lay bs w) h2) (aO:B≠A):Holds h2 B b:=(q.on bs w).step c aO
def Ow {α:Type} (r:aK α) (h0 h:Heap) (e:TypeId) (A:Nat) (v:Value) (l:List α):Prop :=
 (h0.size≤A∧l=[]∧(v=.slice none 0 0∨∃ B o,v=.slice (some ⟨B,o,none⟩) 0 0∧h0.size≤B∧B < h.size∧∃ row u ro,h.get B=some (.row row u ro))) ∨
 ∃ row,v=.slice (some ⟨A,0,none⟩) l.length (G*r.k+l.length)∧l≠[]∧h0.size≤A∧A < h.size∧h.get A=some (.row row e false)∧row.length=l.length*r.k∧l.length≤1152921504606846976 ∧
   ∀ (i:Nat) (x:α),l[i]? = some x→∃ cs,cut row (i*r.k) r.k=some cs∧r.R (h.set A .dead) cs x
theorem cP.kill {h h':Heap} {A:Nat} (i:cP h h') (hA:A < h.size):cP (h.set A .dead) (h'.set A .dead):=⟨i.size,fun B hB hd=>by
 rw [Heap.aC _ _ _ _ hA] at hd ⊢
 rw [Heap.aC _ _ _ _ (Nat.lt_of_lt_of_le hA i.size)]
 split
 ·rfl
 ·rename_i aO
  rw [if_neg aO] at hd
  exact i.get B hB hd⟩
theorem cP.va {h:Heap} {A:Nat} (hA:A < h.size):cP (h.set A .dead) h:=⟨Nat.le_refl _,fun B hB hd=>by
 rw [Heap.aC _ _ _ _ hA] at hd ⊢
 split
 ·rename_i he;rw [if_pos he] at hd;exact absurd rfl hd
 ·rfl⟩
section
variable {α:Type} {r:aK α} {h0 h h' h1 h2:Heap} {v:Value} {l:List α} {e:TypeId} {A:Nat}
theorem Ow.fresh (f:Ow r h0 h e A v l):h0.size≤A:=by
 rcases f with f|⟨_,_,_,h1,_⟩
 ·exact f.1
 ·exact h1
theorem Ow.mono (f:Ow r h0 h e A v l) (i:cP h h'):Ow r h0 h' e A v l:=by
 rcases f with ⟨f1,f2,f3⟩|⟨row,e1,e2,e3,e4,e5,e6,e7,e8⟩
 ·refine .inl ⟨f1,f2,f3.imp id ?_⟩
  rintro ⟨B,o,g1,g0,g2,row,u,ro,g3⟩
  exact ⟨B,o,g1,g0,Nat.lt_of_lt_of_le g2 i.size,row,u,ro,i.at g2 g3⟩
 ·refine .inr ⟨row,e1,e2,e3,Nat.lt_of_lt_of_le e4 i.size,i.at e4 e5,e6,e7,fun j x hj=>?_⟩
  obtain ⟨cs,g1,g2⟩:=e8 j x hj
  exact ⟨cs,g1,r.mono _ _ _ _ (i.kill e4) g2⟩
theorem Ow.over {bs:List bh} {w:Nat} (f:Ow r h0 h1 e A v l) (x:Ext (h1.lay bs w) h2):Ow r h0 h2 e A v l:=f.mono x.inc.jh
theorem Ow.nil (hA:h0.size≤A):Ow r h0 h e A (.slice none 0 0) []:=.inl ⟨hA,rfl,.inl rfl⟩
theorem Ow.sl (hk:0 < r.k) (f:Ow r h0 h e A v l):Sl r h v l:=by
 rcases f with ⟨_,rfl,rfl|⟨B,o,rfl,_,g2,row,u,ro,g3⟩⟩|⟨row,e1,e2,e3,e4,e5,e6,e7,e8⟩
 ·exact .nil
 ·exact .inr ⟨B,o,0,row,u,ro,rfl,Nat.zero_le _,.inl ⟨by unfold G;omega,Nat.le_refl _⟩,g2,g3,fun i x hx=>by simp at hx⟩
 ·obtain ⟨c1,c2,c3⟩:=zP (k:=r.k) (q:=l.length) hk (by unfold G;omega)
  refine .inr ⟨A,0,_,row,e,false,e1,by unfold maxLen;omega,.inr ⟨by omega,c3,by omega⟩,e4,e5,fun i x hx=>?_⟩
  obtain ⟨cs,g1,g2⟩:=e8 i x hx
  exact ⟨cs,by simpa using g1,r.mono _ _ _ _ (cP.va e4) g2⟩
end
/-! ### Appending -/
section
variable {α:Type} {r:aK α} {h0 h1:Heap} {v x:Value} {l l2:List α} {t e:TypeId} {A k bytes:Nat} {z:List Value} {T:bD} {bs:List bh} {w:Nat} {K:Value→Heap→Prop}
theorem zs8 {a b c:List Value} {o n:Nat} (hc:cut a o n=some c):cut (a++b) o n=some c:=by
 unfold cut at hc ⊢
 split at hc
 ·rename_i hle
  rw [if_pos (by simp;omega)]
  rw [List.drop_append_of_le_length (by omega),List.take_append_of_le_length (by simp;omega)]
  exact hc
 ·cases hc
theorem zpZ {a b c:List Value} {o n:Nat} (hc:cut b o n=some c):cut (a++b) (a.length+o) n=some c:=by
 unfold cut at hc ⊢
 split at hc
 ·rename_i hle
  rw [if_pos (by simp;omega)]
  simp only [Option.some.injEq] at hc ⊢
  rw [← hc,List.drop_append,List.drop_of_length_le (by omega)]
  simp
 ·cases hc
def Src (r:aK α) (h:Heap) (m:Nat) (news:List Value) (l2:List α):Prop :=
 l2.length=m∧news.length=m*r.k∧news.all one=true∧∀ (i:Nat) (y:α),l2[i]? = some y→∃ cs,cut news (i*r.k) r.k=some cs∧r.R h cs y
def kill (A:Nat) (h:Heap):Heap:=if A < h.size then h.set A .dead else h
theorem OY (A:Nat) (h:Heap):(kill A h).size=h.size:=by unfold kill;split <;> rfl
theorem Gp (A:Nat) (h:Heap):cP (kill A h) h:=by
 unfold kill
 split
 ·rename_i hA;exact cP.va hA
 ·exact cP.refl h
theorem ER {h:Heap} (hd:T.desc t=some (.slice e)) (hi:T.info e=some (k,bytes,z)) (FP:r.k=k) (hk:0 < k) (hz:h0.size≤h.size) (f:Ow r h0 h e A v l) {m:Nat} {news:List Value} (hs:fI x k h=some (m,news)) (oP:Src r (kill A h) m news l2)
 (hb:(l.length+m)*bytes≤140737488355328) (hl:l.length+m≤1152921504606846976) :
 ∃ v' h' A',il T t v x h=some (v',h')∧Ow r h0 h' e A' v' (l++l2)∧fK A h h'∧(A'=A∨A'=h.size)∧h0.size≤A':=by
 subst FP
 obtain ⟨hm,JN,h1,Dy⟩:=oP
 by_cases xm:m=0
 ·subst xm
  have:l2=[]:=List.length_eq_zero_iff.1 hm
  subst this
  refine ⟨v,h,A,?_,by rw [List.append_nil];exact f,(Ext.refl h).ku,.inl rfl,f.fresh⟩
  unfold il
  simp only [hd,hi,hs,Option.bind_some]
  rcases f with ⟨_,_,rfl|⟨B,o,rfl,_⟩⟩|⟨row,rfl,_⟩ <;> simp
 ·have uF:∀ (h2:Heap) (nI:List Value),h2.size=h.size→(∀ B,B < h.size→B≠A→h2.get B=h.get B)→min (min h.low h.size) A≤h2.low →
   (∀ (i:Nat) (y:α),(l++l2)[i]? = some y→∃ cs,cut nI (i*r.k) r.k=some cs∧r.R h2 cs y)→nI.length=(l.length+m)*r.k →
   Ow r h0 (h2.push (.row nI e false)) e h.size (.slice (some ⟨h.size,0,none⟩) (l.length+m) (G*r.k+(l.length+m))) (l++l2)∧fK A h (h2.push (.row nI e false)):=by
   intro h2 nI e1 e2 e3 e4 e5
   have Jy:cP h2 ((h2.push (.row nI e false)).set h.size .dead):=⟨by rw [Heap.size_set,Heap.size_push];omega,fun B hB _=>by
    rw [Heap.aC _ _ _ _ (by rw [Heap.size_push];omega),if_neg (by omega),Heap.bL,if_neg (by omega)]⟩
   refine ⟨.inr ⟨nI,by rw [List.length_append,hm],fun hh=>?_,hz,?_,?_,by rw [List.length_append,hm];exact e5,by rw [List.length_append,hm];exact hl,fun i y hy=>?_⟩,?_,?_,?_⟩
   ·have:=congrArg List.length hh
    rw [List.length_append,hm] at this
    simp at this
    omega
   ·rw [Heap.size_push,e1];omega
   ·rw [Heap.bL,if_pos e1.symm]
   ·obtain ⟨cs,c1,c2⟩:=e4 i y hy
    exact ⟨cs,c1,r.mono _ _ _ _ Jy c2⟩
   ·rw [Heap.size_push,e1];omega
   ·intro B hB aO
    rw [Heap.bL,if_neg (by omega)]
    exact e2 B hB aO
   ·rw [Heap.dH];exact e3
  rcases f with ⟨f1,rfl,f3⟩|⟨row,rfl,e2,e3,e4,e5,e6,e7,e8⟩
  ·-- to nothing
   have key:il T t v x h=some (.slice (some ⟨h.size,0,none⟩) m (G*r.k+m),h.push (.row news e false)):=by
    rcases f3 with rfl|⟨B,o,rfl,_,g1,row,u,ro,g2⟩
    ·exact zsN hd hi hk hs (by omega) h1 (by simpa using hb) (by simpa using hl)
    ·unfold il
     simp only [hd,hi,hs,Option.bind_some]
     rw [if_neg (by omega),if_neg,if_neg]
     ·have hG:0 < G:=by unfold G;omega
      simp [lU,hG]
     ·have:0 % G=0:=Nat.zero_mod _
      omega
     ·simp only [Bool.or_eq_true,decide_eq_true_eq,Bool.not_eq_true',h1,not_or]
      simp only [List.length_nil] at hb hl
      refine ⟨⟨⟨by omega,by omega⟩,by omega⟩,by simp⟩
   obtain ⟨a,b⟩:=uF h news rfl (fun _ _ _=>rfl) (by omega) (fun i y hy=>by
    obtain ⟨cs,c1,c2⟩:=Dy i y (by simpa using hy)
    exact ⟨cs,c1,r.mono _ _ _ _ (Gp A h) c2⟩) (by simpa using JN)
   refine ⟨_,_,h.size,key,?_,b,.inr rfl,hz⟩
   simpa using a
  ·obtain ⟨c1,c2,c3⟩:=zP (k:=r.k) (q:=l.length) hk (by unfold G;omega)
   have Wi:0 < l.length:=List.length_pos_iff.2 e2
   have key:=zwg (t:=t) (x:=x) hd hi hk e5 e6 Wi hs (by omega) h1 hb hl
   have iH:∀ B,B < h.size→B≠A→(h.set A .dead).get B=h.get B:=fun B hB aO=>by rw [Heap.aC _ _ _ _ e4,if_neg aO]
   have JB:kill A h=h.set A .dead:=if_pos e4
   rw [JB] at Dy
   obtain ⟨a,b⟩:=uF (h.set A .dead) (row++news) rfl iH (by rw [Heap.bX];omega) (fun i y hy=>by
    by_cases hi:i < l.length
    ·rw [List.getElem?_append_left hi] at hy
     obtain ⟨cs,g1,g2⟩:=e8 i y hy
     exact ⟨cs,zs8 g1,g2⟩
    ·rw [List.getElem?_append_right (by omega)] at hy
     obtain ⟨cs,g1,g2⟩:=Dy _ y hy
     refine ⟨cs,?_,g2⟩
     have:=zpZ (a:=row) g1
     rwa [e6,← Nat.add_mul,show l.length+(i - l.length)=i by omega] at this) (by rw [List.length_append,e6,JN,Nat.add_mul])
   exact ⟨_,_,h.size,key,a,b,.inr rfl,hz⟩
theorem zsM (hd:T.desc t=some (.slice e)) (hi:T.info e=some (k,bytes,z)) (FP:r.k=k) (hk:0 < k) (hz:h0.size≤h1.size) (f:Ow r h0 h1 e A v l) {m:Nat} {news:List Value} (hs:fI x k (h1.lay bs w)=some (m,news)) (oP:Src r (kill A (h1.lay bs w)) m news l2)
 (hb:(l.length+m)*bytes≤140737488355328) (hl:l.length+m≤1152921504606846976) (hK:∀ v' h' A',Ow r h0 h' e A' v' (l++l2)→fK A (h1.lay bs w) h'→(A'=A∨h1.size≤A')→K v' h'):bW (il T t v x (h1.lay bs w)) K:=by
 obtain ⟨v',h',A',g1,g2,g3,g4,g5⟩:=ER hd hi FP hk (by rw [bB];omega) (f.mono (cP.lay h1 bs w)) hs oP hb hl
 rw [g1]
 refine hK v' h' A' g2 g3 (g4.imp id ?_)
 rintro rfl
 rw [bB]
 omega
theorem zpw {h:Heap} {B c:Nat} {cs:List Value} {u:TypeId} {ro:Bool} {y:α} (hk:0 < r.k) (hg:h.get B=some (.row cs u ro)) (hr:r.R (kill A h) cs y):fI (.slice (some ⟨B,0,none⟩) 1 c) r.k h=some (1,cs)∧Src r (kill A h) 1 cs [y]:=by
 have hl:=r.len _ _ _ hr
 refine ⟨?_,rfl,by rw [hl];omega,r.gK _ _ _ hr,fun i y' hy=>?_⟩
 ·have hc:cut cs 0 r.k=some cs:=by
   unfold cut
   rw [if_pos (by omega),← hl]
   simp
  simp only [fI,lU,Nat.one_mul]
  rw [if_neg (by omega)]
  simp only [gL,hg,hc,Option.map_some]
 ·cases i with
  |zero =>
   simp at hy
   subst hy
   refine ⟨cs,?_,hr⟩
   unfold cut
   rw [if_pos (by omega),← hl]
   simp
  |succ i=>simp at hy
theorem MZ {h:Heap} (hk:0 < r.k) (f:Sl r h x l2) (hf:∀ cs y,r.R h cs y→r.R (kill A h) cs y):∃ news,fI x r.k h=some (l2.length,news)∧Src r (kill A h) l2.length news l2:=by
 rcases f with ⟨rfl,rfl⟩|⟨B,o,c,row,u,ro,rfl,e2,e3,e4,e5,e6⟩
 ·exact ⟨[],rfl,rfl,by simp,rfl,fun i y hy=>by simp at hy⟩
 ·by_cases h0:l2.length=0
  ·have:l2=[]:=List.length_eq_zero_iff.1 h0
   subst this
   exact ⟨[],by simp [fI,lU],rfl,by simp,rfl,fun i y hy=>by simp at hy⟩
  ·have hle:o+l2.length*r.k≤row.length:=by
    obtain ⟨cs,g1,_⟩:=e6 (l2.length - 1) (l2[l2.length - 1]'(by omega)) (by simp)
    unfold cut at g1
    split at g1
    ·rename_i hh
     have:(l2.length - 1)*r.k+r.k=l2.length*r.k:=by rw [← Nat.succ_mul];congr 1;omega
     omega
    ·cases g1
   have jB:0 < l2.length*r.k:=Nat.mul_pos (by omega) hk
   refine ⟨(row.drop o).take (l2.length*r.k),?_,rfl,by rw [List.length_take,List.length_drop];omega,?_,fun i y hy=>?_⟩
   ·simp only [fI,lU]
    rw [if_neg (by omega)]
    simp only [gL,e5,cut,if_pos hle,Option.map_some]
   ·rw [List.all_eq_true]
    intro v hv
    obtain ⟨j,hj,rfl⟩:=List.getElem_of_mem hv
    rw [List.length_take,List.length_drop] at hj
    have xj:j / r.k < l2.length:=Nat.div_lt_of_lt_mul (by rw [Nat.mul_comm];omega)
    obtain ⟨cs,g1,g2⟩:=e6 (j / r.k) (l2[j / r.k]) (by simp [xj])
    have g3:=List.all_eq_true.1 (r.gK _ _ _ g2)
    apply g3
    unfold cut at g1
    split at g1
    ·simp only [Option.some.injEq] at g1
     rw [← g1]
     refine List.mem_of_getElem? (i:=j % r.k) ?_
     have Dk:=Nat.mod_lt j hk
     rw [List.getElem?_take_of_lt Dk,List.getElem?_drop,List.getElem_take,List.getElem_drop]
     have hdm:=Nat.div_add_mod j r.k
     rw [Nat.mul_comm] at hdm
     rw [show o+j / r.k*r.k+j % r.k=o+j by omega]
     exact List.getElem?_eq_getElem _
    ·cases g1
   ·obtain ⟨cs,g1,g2⟩:=e6 i y hy
    refine ⟨cs,?_,hf _ _ g2⟩
    have hi:=(List.getElem?_eq_some_iff.1 hy).1
    have aH:(i+1)*r.k≤l2.length*r.k:=Nat.mul_le_mul_right _ (by omega)
    rw [Nat.succ_mul] at aH
    unfold cut at g1 ⊢
    split at g1
    ·rw [if_pos (by rw [List.length_take,List.length_drop];omega)]
     simp only [Option.some.injEq] at g1 ⊢
     rw [← g1,List.drop_take,List.drop_drop,List.take_take]
     congr 1
     omega
    ·cases g1
end
end Go.Am
namespace Go.Am
structure aQ where
 v:Bool
 s:ByteArray
 deriving DecidableEq
structure ab where
 says:ByteArray
 pred:ByteArray
 n:Int
 t0:aQ
 t1:aQ
 t2:aQ
 t3:aQ
 deriving DecidableEq
def aQ.cells (t:aQ):List Value:=[.bool t.v,.string t.s]
def aQ.val (t:aQ):Value:=.agg ⟨t.cells⟩
def ab.cells (a:ab):List Value:=[.string a.says,.string a.pred,.int .i64 a.n,.bool a.t0.v,.string a.t0.s,.bool a.t1.v,.string a.t1.s,.bool a.t2.v,.string a.t2.s,.bool a.t3.v,.string a.t3.s]
def ab.val (a:ab):Value:=.agg ⟨a.cells⟩
def ab.arg (a:ab):Nat→aQ
 |0=>a.t0
 |1=>a.t1
 |2=>a.t2
 |_=>a.t3
def ab.cx (a:ab):Nat:=min a.n.toNat 4
def ab.args (a:ab):List aQ:=[a.t0,a.t1,a.t2,a.t3].take a.cx
def ab.all (a:ab):List aQ:=[a.t0,a.t1,a.t2,a.t3]
def bT:aQ:=⟨false,⟨#[]⟩⟩
def ah:ab:=⟨⟨#[]⟩,⟨#[]⟩,0,bT,bT,bT,bT⟩
def ab.ba (a:ab):Bool:=decide (a.says.size≤300) && (decide (a.pred.size≤300) && (decide (a.t0.s.size≤300) && (decide (a.t1.s.size≤300) && (decide (a.t2.s.size≤300) && decide (a.t3.s.size≤300)))))
structure bP where
 head:ab
 body:List ab
 deriving DecidableEq
structure dW where
 atom:ab
 clause:Int
 body:List ab
 deriving DecidableEq
structure gR where
 var:ByteArray
 term:aQ
 deriving DecidableEq
def gR.cells (b:gR):List Value:=[.string b.var,.bool b.term.v,.string b.term.s]
def gR.val (b:gR):Value:=.agg ⟨b.cells⟩
abbrev aK.atom:aK ab:={ k:=11,R:=fun _ cs x=>cs=x.cells,len:=by rintro _ _ _ rfl;rfl,mono:=fun _ _ _ _ _ h=>h,gK:=by rintro _ _ _ rfl;rfl }
abbrev aK.term:aK aQ:={ k:=2,R:=fun _ cs x=>cs=x.cells,len:=by rintro _ _ _ rfl;rfl,mono:=fun _ _ _ _ _ h=>h,gK:=by rintro _ _ _ rfl;rfl }
abbrev aK.bind:aK gR:={ k:=3,R:=fun _ cs x=>cs=x.cells,len:=by rintro _ _ _ rfl;rfl,mono:=fun _ _ _ _ _ h=>h,gK:=by rintro _ _ _ rfl;rfl }
theorem Sl.one {α:Type} {r:aK α} {h:Heap} {v:Value} {l:List α} (f:Sl r h v l):one v=true:=by
 rcases f with ⟨rfl,_⟩|⟨A,o,c,row,u,ro,rfl,_⟩ <;> rfl
abbrev aK.clause:aK bP :=
 { k:=12,R:=fun h cs x=>∃ v,cs=x.head.cells++[v]∧Sl aK.atom h v x.body
   len:=by rintro h cs x ⟨v,rfl,_⟩;rfl
   mono:=by rintro h h' cs x i ⟨v,e,f⟩;exact ⟨v,e,f.mono i⟩
   gK:=by rintro h cs x ⟨v,rfl,f⟩;have:=f.one;simp only [List.all_append,ab.cells,List.all_cons,List.all_nil,this];rfl }
abbrev aK.reason:aK dW :=
 { k:=13,R:=fun h cs x=>∃ v,cs=x.atom.cells++[.int .i64 x.clause,v]∧Sl aK.atom h v x.body
   len:=by rintro h cs x ⟨v,rfl,_⟩;rfl
   mono:=by rintro h h' cs x i ⟨v,e,f⟩;exact ⟨v,e,f.mono i⟩
   gK:=by rintro h cs x ⟨v,rfl,f⟩;have:=f.one;simp only [List.all_append,ab.cells,List.all_cons,List.all_nil,this];rfl }
theorem GC {a b:ByteArray} (h:a.data.toList=b.data.toList):a=b:=by
 obtain ⟨⟨a⟩⟩:=a
 obtain ⟨⟨b⟩⟩:=b
 simp at h
 rw [h]
theorem zsT (a b:ByteArray):(a.data.toList == b.data.toList)=decide (a=b):=by
 by_cases h:a=b
 ·subst h;simp
 ·have:¬ a.data.toList=b.data.toList:=fun hh=>h (GC hh)
  rw [decide_eq_false h]
  exact beq_eq_false_iff_ne.2 this
def ru (b:Bool) (r:Option Bool):Option Bool:=(some b).bind fun c=>if c then r else some false
theorem L3 (b c:Bool):ru b (some c)=some (b && c):=by cases b <;> rfl
def kQ (x y:aQ):Option Bool:=ru (x.v == y.v) (ru (x.s.data.toList == y.s.data.toList) (some true))
theorem ZM (x y:aQ):kQ x y=some (decide (x=y)):=by
 obtain ⟨v,s⟩:=x
 obtain ⟨w,t⟩:=y
 unfold kQ
 rw [L3,L3,zsT]
 simp only [aQ.mk.injEq,Bool.and_true]
 by_cases h1:v=w <;> by_cases h2:s=t <;> simp [h1,h2]
def Ns (a b:ab):Option Bool:=ru (a.says.data.toList == b.says.data.toList) (ru (a.pred.data.toList == b.pred.data.toList) (ru (a.n == b.n)
 (((kQ a.t0 b.t0).bind fun c=>if c=true then ((kQ a.t1 b.t1).bind fun c=>if c=true then ((kQ a.t2 b.t2).bind fun c=>if c=true then ((kQ a.t3 b.t3).bind fun c=>if c=true then some true else some false) else some false) else some false) else some false).bind fun c=>if c=true then some true else some false)))
theorem zp4 (a b:ab):Ns a b=some (decide (a=b)):=by
 obtain ⟨s,p,n,x0,x1,x2,x3⟩:=a
 obtain ⟨s',p',n',y0,y1,y2,y3⟩:=b
 unfold Ns
 simp only [ZM,Option.bind_some]
 simp only [ab.mk.injEq]
 have key:(if decide (x0=y0)=true then (if decide (x1=y1)=true then (if decide (x2=y2)=true then (if decide (x3=y3)=true then some true else some false) else some false) else some false) else some false)=some (decide (x0=y0∧x1=y1∧x2=y2∧x3=y3)):=by
  by_cases h0:x0=y0 <;> by_cases h1:x1=y1 <;> by_cases h2:x2=y2 <;> by_cases h3:x3=y3 <;> simp [h0,h1,h2,h3]
 rw [key,Option.bind_some]
 have k2:∀ c:Bool,(if c=true then some true else some false)=some c:=by intro c;cases c <;> rfl
 rw [k2,L3,L3,L3,zsT,zsT]
 congr 1
 by_cases h1:s=s' <;> by_cases h2:p=p' <;> by_cases h3:n=n' <;> simp [h1,h2,h3]
/-! ### Steps on elements -/
def ab.k0 (a:ab):List Value:=[.bool a.t0.v,.string a.t0.s,.bool a.t1.v,.string a.t1.s,.bool a.t2.v,.string a.t2.s,.bool a.t3.v,.string a.t3.s]
section
variable {h1:Heap} {bs:List bh} {w:Nat} {T:bD} {K:Value→Heap→Prop} {t e s:TypeId} {v p:Value} {kd:IntKind} {i:Int}
theorem ixa {l:List ab} (f:Sl aK.atom h1 v l) (hd:T.desc t=some (.slice e)) (hs:bO T e=some 11) (h0:0≤i) (hi:i < l.length) (hk:∀ x p,l[i.toNat]? = some x→eC h1 p x.cells→K p (h1.lay bs w)):aU (fM T t v (.int kd i)) (h1.lay bs w) K :=
 zO f hd hs h0 hi fun x p cs hx hr hp=>hk x p hx (hr ▸ hp)
theorem ixt {l:List aQ} (f:Sl aK.term h1 v l) (hd:T.desc t=some (.slice e)) (hs:bO T e=some 2) (h0:0≤i) (hi:i < l.length) (hk:∀ x p,l[i.toNat]? = some x→eC h1 p x.cells→K p (h1.lay bs w)):aU (fM T t v (.int kd i)) (h1.lay bs w) K :=
 zO f hd hs h0 hi fun x p cs hx hr hp=>hk x p hx (hr ▸ hp)
theorem ixs {l:List ByteArray} (f:Sl aK.str h1 v l) (hd:T.desc t=some (.slice e)) (hs:bO T e=some 1) (h0:0≤i) (hi:i < l.length) (hk:∀ x p,l[i.toNat]? = some x→eC h1 p [.string x]→K p (h1.lay bs w)):aU (fM T t v (.int kd i)) (h1.lay bs w) K :=
 zO f hd hs h0 hi fun x p cs hx hr hp=>hk x p hx (hr ▸ hp)
theorem ixc {l:List bP} (f:Sl aK.clause h1 v l) (hd:T.desc t=some (.slice e)) (hs:bO T e=some 12) (h0:0≤i) (hi:i < l.length) (hk:∀ x p b,l[i.toNat]? = some x→Sl aK.atom h1 b x.body→eC h1 p (x.head.cells++[b])→K p (h1.lay bs w)):aU (fM T t v (.int kd i)) (h1.lay bs w) K :=
 zO f hd hs h0 hi fun x p cs hx ⟨b,hr,hb⟩ hp=>hk x p b hx hb (hr ▸ hp)
theorem mM {x:ab} (f:eC h1 p x.cells) (hg:aq T t=some true) (hs:bO T t=some 11) (hk:K x.val (h1.lay bs w)):aU (dz T t p (h1.lay bs w)) (h1.lay bs w) K:=MN f hg hs rfl hk
theorem FW {x:aQ} (f:eC h1 p x.cells) (hg:aq T t=some true) (hs:bO T t=some 2) (hk:K x.val (h1.lay bs w)):aU (dz T t p (h1.lay bs w)) (h1.lay bs w) K:=MN f hg hs rfl hk
theorem ldc {x:bP} {b:Value} (f:eC h1 p (x.head.cells++[b])) (hg:aq T t=some true) (hs:bO T t=some 12) (hk:K (.agg ⟨x.head.cells++[b]⟩) (h1.lay bs w)):aU (dz T t p (h1.lay bs w)) (h1.lay bs w) K:=MN f hg hs rfl hk
theorem rD {cs ds:List Value} {j off:Nat} (f:eC h1 p cs) (jy:∀ A o,cV T s (.pointer (some ⟨A,o,none⟩)) j=some (.pointer (some ⟨A,o+off,none⟩))) (he:(cs.drop off).take ds.length=ds) (hz:0 < ds.length) (hk:∀ q,eC h1 q ds→K q (h1.lay bs w)):aU (cV T s p j) (h1.lay bs w) K:=by
 have hb:off+ds.length≤cs.length:=by
  have:=congrArg List.length he
  rw [List.length_take,List.length_drop] at this
  omega
 refine zCw ds.length f jy hb fun q hq=>hk q ?_
 rw [he] at hq
 exact hq
theorem TH {x:ab} (f:eC h1 p (x.cells)) (jy:∀ A o,cV T s (.pointer (some ⟨A,o,none⟩)) 0=some (.pointer (some ⟨A,o+0,none⟩))) (hk:∀ q,eC h1 q ([.string x.says])→K q (h1.lay bs w)):aU (cV T s p 0) (h1.lay bs w) K:=rD (ds:=[.string x.says]) f jy rfl (Nat.succ_pos _) hk
theorem TI {x:ab} (f:eC h1 p (x.cells)) (jy:∀ A o,cV T s (.pointer (some ⟨A,o,none⟩)) 2=some (.pointer (some ⟨A,o+2,none⟩))) (hk:∀ q,eC h1 q ([.int .i64 x.n])→K q (h1.lay bs w)):aU (cV T s p 2) (h1.lay bs w) K:=rD (ds:=[.int .i64 x.n]) f jy rfl (Nat.succ_pos _) hk
theorem TJ {x:ab} (f:eC h1 p (x.cells)) (jy:∀ A o,cV T s (.pointer (some ⟨A,o,none⟩)) 3=some (.pointer (some ⟨A,o+3,none⟩))) (hk:∀ q,eC h1 q (x.k0)→K q (h1.lay bs w)):aU (cV T s p 3) (h1.lay bs w) K:=rD (ds:=x.k0) f jy rfl (Nat.succ_pos _) hk
theorem Cz {x:bP} {b:Value} (f:eC h1 p (x.head.cells++[b])) (jy:∀ A o,cV T s (.pointer (some ⟨A,o,none⟩)) 0=some (.pointer (some ⟨A,o+0,none⟩))) (hk:∀ q,eC h1 q (x.head.cells)→K q (h1.lay bs w)):aU (cV T s p 0) (h1.lay bs w) K:=rD (ds:=x.head.cells) f jy rfl (Nat.succ_pos _) hk
theorem CA {x:bP} {b:Value} (f:eC h1 p (x.head.cells++[b])) (jy:∀ A o,cV T s (.pointer (some ⟨A,o,none⟩)) 1=some (.pointer (some ⟨A,o+11,none⟩))) (hk:∀ q,eC h1 q ([b])→K q (h1.lay bs w)):aU (cV T s p 1) (h1.lay bs w) K:=rD (ds:=[b]) f jy rfl (Nat.succ_pos _) hk
theorem ixg {x:ab} (f:eC h1 p x.k0) (NF:∀ A o ik i,fM T s (.pointer (some ⟨A,o,none⟩)) (.int ik i)=if 0≤i∧i < ((4:Nat):Int) then some (.pointer (some ⟨A,o+i.toNat*2,none⟩)) else none) (h0:0≤i) (hi:i < 4) (hk:∀ q,eC h1 q (x.arg i.toNat).cells→K q (h1.lay bs w)) :
 aU (fM T s p (.int kd i)) (h1.lay bs w) K:=by
 refine zwI (m:=4) f NF h0 (by omega) (Nat.le_refl 8) fun q hq=>hk q ?_
 have:i=0∨i=1∨i=2∨i=3:=by omega
 rcases this with rfl|rfl|rfl|rfl <;> exact hq
end
theorem pf {α:Type} {P:α→Prop} {l:List α} {i:Nat} {a:α} (hx:l[i]? = some a) (az:∀ x∈l.take i,P x) (ha:P a):∀ x∈l.take (i+1),P x:=by
 intro x hm
 rw [List.take_add_one,hx] at hm
 simp only [Option.toList_some,List.mem_append,List.mem_singleton] at hm
 rcases hm with hm|rfl
 ·exact az x hm
 ·exact ha
theorem Me {a:ab} (h:a.ba=true) (k:Nat):(a.arg k).s.size≤300:=by
 simp only [ab.ba,Bool.and_eq_true,decide_eq_true_eq] at h
 obtain ⟨_,_,h0,h1,h2,h3⟩:=h
 match k with
 |0=>exact h0
 |1=>exact h1
 |2=>exact h2
 |k+3=>exact h3
theorem Y2 {a:ab} (h:a.ba=true):a.says.size≤300∧a.pred.size≤300:=by
 simp only [ab.ba,Bool.and_eq_true,decide_eq_true_eq] at h
 exact ⟨h.1,h.2.1⟩
theorem MT {p:Prop} [Decidable p] {h:Heap} {K:Value→Heap→Prop} (h1:¬ p→K (.bool true) h) (h2:p→K (.bool false) h):pL (!decide p) h K :=
 ⟨fun hp=>h1 (by simpa using hp),fun hp=>h2 (by simpa using hp)⟩
theorem zCx {b:Bool} {h:Heap} {K:Value→Heap→Prop} (h1:b=false→K (.bool true) h) (h2:b=true→K (.bool false) h):pL (!b) h K :=
 ⟨fun hp=>h1 (by simpa using hp),fun hp=>h2 (by simpa using hp)⟩
theorem PK {b:Bool} {h:Heap} {K:Value→Heap→Prop} (h1:b=true→K (.bool true) h) (h2:b=false→K (.bool false) h):pL b h K:=⟨h1,h2⟩
end Go.Am
