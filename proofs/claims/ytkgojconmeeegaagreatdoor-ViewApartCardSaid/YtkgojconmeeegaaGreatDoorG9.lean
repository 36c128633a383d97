/- Slices and pointers by what they hold. No condition. -/
import Derived.Test.YtkgojconmeeegaaGreatDoorG8
set_option linter.unusedVariables false
namespace Go.Am
structure aJ (α:Type) where
 k:Nat
 R:Heap→List Value→α→Prop
 len:∀ h cs x,R h cs x→cs.length=k
 mono:∀ h h' cs x,cn h h'→R h cs x→R h' cs x
 iP:∀ h cs x,R h cs x→cs.all one=true
def eZ (h:Heap) (p:Value) (cs:List Value):Prop:=∃ A o row u ro,p=.pointer (some ⟨A,o,none⟩)∧A < h.size∧h.get A=some (.row row u ro)∧cut row o cs.length=some cs
def Ch (k n c:Nat):Prop:=(c < G∧n≤c)∨(G≤c∧c / G=k∧n≤c % G)
def Sl {α:Type} (r:aJ α) (h:Heap) (v:Value) (l:List α):Prop :=
 (v=.slice none 0 0∧l=[])∨∃ A o c row u ro,v=.slice (some ⟨A,o,none⟩) l.length c∧l.length≤maxLen∧Ch r.k l.length c∧A < h.size∧h.get A=some (.row row u ro) ∧
  ∀ (i:Nat) (x:α),l[i]? = some x→∃ cs,cut row (o+i*r.k) r.k=some cs∧r.R h cs x
theorem Holds.mono {h h':Heap} {A:Nat} {cs:List Value} {u:TypeId} {ro:Bool} (hh:Holds h A (.row cs u ro)) (i:cn h h'):Holds h' A (.row cs u ro):=⟨Nat.lt_of_lt_of_le hh.lt i.size,i.at hh.lt hh.get⟩
theorem Holds.over {h1 h2:Heap} {A:Nat} {b:bh} {l:List bh} {w:Nat} (f:Holds h1 A b) (x:Ext (h1.lay l w) h2):Holds h2 A b:=⟨Nat.lt_of_lt_of_le f.lt x.inc.gg.size,(x.get A (by rw [bm];have:=f.lt;omega)).trans (f.lay l w)⟩
section
variable {α:Type} {r:aJ α} {h h' h1 h2:Heap} {v:Value} {l:List α}
theorem Sl.mono (f:Sl r h v l) (i:cn h h'):Sl r h' v l:=by
 rcases f with f|⟨A,o,c,row,u,ro,e1,e2,e3,e4,e5,e6⟩
 ·exact .inl f
 ·refine .inr ⟨A,o,c,row,u,ro,e1,e2,e3,Nat.lt_of_lt_of_le e4 i.size,i.at e4 e5,fun j x hj=>?_⟩
  obtain ⟨cs,g1,g2⟩:=e6 j x hj
  exact ⟨cs,g1,r.mono _ _ _ _ i g2⟩
theorem Sl.over {bs:List bh} {w:Nat} (f:Sl r h1 v l) (x:Ext (h1.lay bs w) h2):Sl r h2 v l:=f.mono x.inc.gg
theorem Sl.lay (f:Sl r h v l) (bs:List bh) (w:Nat):Sl r (h.lay bs w) v l:=f.mono (cn.lay h bs w)
theorem Sl.le (f:Sl r h v l):l.length≤maxLen:=by
 rcases f with ⟨_,rfl⟩|⟨A,o,c,row,u,ro,e1,e2,_⟩
 ·exact Nat.zero_le _
 ·exact e2
theorem Sl.nil:Sl r h (.slice none 0 0) []:=.inl ⟨rfl,rfl⟩
variable {P:Program} {T:bK} {ov:Ov} {K:Value→Heap→Prop} {t e:TypeId} {bs:List bh} {w:Nat}
theorem Sl.bc (f:Sl r h v l) (hd:T.desc t=some (.slice e)) (h2:Heap):bc T t v h2=some (.int .i64 l.length):=by
 rcases f with ⟨rfl,rfl⟩|⟨A,o,c,row,u,ro,rfl,_⟩
 ·simp [Am.bc,hd]
 ·simp [Am.bc,hd]
theorem HH (f:Sl r h v l) (hd:T.desc t=some (.slice e)) (hk:K (.int .i64 l.length) h1):aW (Am.bc T t v h1) h1 K:=by rw [f.bc hd];exact hk
theorem y9 (f:Sl r h1 v l) (hd:T.desc t=some (.slice e)) (hs:bJ T e=some r.k) {kd:IntKind} {i:Int} (h0:0≤i) (hi:i < l.length) (hk:∀ x p cs,l[i.toNat]? = some x→r.R h1 cs x→eZ h1 p cs→K p (h1.lay bs w)) :
 aW (fW T t v (.int kd i)) (h1.lay bs w) K:=by
 rcases f with ⟨rfl,rfl⟩|⟨A,o,c,row,u,ro,rfl,e2,e3,e4,e5,e6⟩
 ·simp at hi;omega
 ·have aR:i.toNat < l.length:=by omega
  obtain ⟨cs,g1,g2⟩:=e6 i.toNat l[i.toNat] (by simp [aR])
  unfold fW
  simp only [hd]
  rw [if_pos ⟨h0,hi⟩,hs]
  refine hk _ _ cs (by simp [aR]) g2 ⟨A,_,row,u,ro,rfl,e4,e5,?_⟩
  rw [r.len _ _ _ g2]
  exact g1
theorem SA {p:Value} {cs:List Value} {n:Nat} (f:eZ h1 p cs) (hg:aq T t=some true) (hs:bJ T t=some n) (hn:cs.length=n) (hk:K (.agg ⟨cs⟩) (h1.lay bs w)):aW (dI T t p (h1.lay bs w)) (h1.lay bs w) K:=by
 obtain ⟨A,o,row,u,ro,rfl,hA,dF,hc⟩:=f
 unfold dI
 simp only [hg,hs,Option.bind_some,if_true,gQ]
 rw [Ek _ _ _ hA,dF]
 simp only
 rw [← hn,hc]
 exact hk
theorem hY {p x:Value} (f:eZ h1 p [x]) (hg:aq T t=some false) (hk:K x (h1.lay bs w)):aW (dI T t p (h1.lay bs w)) (h1.lay bs w) K:=by
 obtain ⟨A,o,row,u,ro,rfl,hA,dF,hc⟩:=f
 unfold dI
 simp only [hg,Option.bind_some,Bool.false_eq_true,if_false,gQ]
 rw [Ek _ _ _ hA,dF]
 simp only
 rw [show (1:Nat)=[x].length from rfl,hc]
 exact hk
theorem zuL {row cs:List Value} {o off n:Nat} (hc:cut row o cs.length=some cs) (hb:off+n≤cs.length):cut row (o+off) n=some ((cs.drop off).take n):=by
 unfold cut at hc ⊢
 split at hc
 ·rename_i hle
  rw [if_pos (by omega)]
  simp only [Option.some.injEq] at hc ⊢
  rw [← hc,List.drop_take,List.take_take,List.drop_drop]
  congr 1
  omega
 ·cases hc
theorem zGa {p:Value} {cs:List Value} {s i off:Nat} (n:Nat) (f:eZ h1 p cs) (k9:∀ A o,dg T s (.pointer (some ⟨A,o,none⟩)) i=some (.pointer (some ⟨A,o+off,none⟩))) (hb:off+n≤cs.length) (hk:∀ q,eZ h1 q ((cs.drop off).take n)→K q (h1.lay bs w)) :
 aW (dg T s p i) (h1.lay bs w) K:=by
 obtain ⟨A,o,row,u,ro,rfl,hA,dF,hc⟩:=f
 rw [k9]
 refine hk _ ⟨A,_,row,u,ro,rfl,hA,dF,?_⟩
 have hl:((cs.drop off).take n).length=n:=by rw [List.length_take,List.length_drop];omega
 rw [hl]
 exact zuL hc hb
theorem zy9 {p:Value} {cs:List Value} {s m z:Nat} {kd:IntKind} {i:Int} (f:eZ h1 p cs) (Ti:∀ A o ik i,fW T s (.pointer (some ⟨A,o,none⟩)) (.int ik i)=if 0≤i∧i < (m:Int) then some (.pointer (some ⟨A,o+i.toNat*z,none⟩)) else none) (h0:0≤i) (hi:i < m) (hb:m*z≤cs.length)
 (hk:∀ q,eZ h1 q ((cs.drop (i.toNat*z)).take z)→K q (h1.lay bs w)):aW (fW T s p (.int kd i)) (h1.lay bs w) K:=by
 obtain ⟨A,o,row,u,ro,rfl,hA,dF,hc⟩:=f
 rw [Ti,if_pos ⟨h0,hi⟩]
 have hle:i.toNat*z+z≤cs.length:=by
  calc i.toNat*z+z=(i.toNat+1)*z:=by rw [Nat.succ_mul]
   _≤m*z:=Nat.mul_le_mul_right _ (by omega)
   _≤cs.length:=hb
 refine hk _ ⟨A,_,row,u,ro,rfl,hA,dF,?_⟩
 have hl:((cs.drop (i.toNat*z)).take z).length=z:=by rw [List.length_take,List.length_drop];omega
 rw [hl]
 exact zuL hc hle
end
/-! ### The usual cells -/
abbrev aJ.str:aJ ByteArray:={ k:=1,R:=fun _ cs x=>cs=[.string x],len:=by rintro _ _ _ rfl;rfl,mono:=fun _ _ _ _ _ h=>h,iP:=by rintro _ _ _ rfl;rfl }
abbrev aJ.int:aJ Int:={ k:=1,R:=fun _ cs x=>cs=[.int .i64 x],len:=by rintro _ _ _ rfl;rfl,mono:=fun _ _ _ _ _ h=>h,iP:=by rintro _ _ _ rfl;rfl }
abbrev aJ.bool:aJ Bool:={ k:=1,R:=fun _ cs x=>cs=[.bool x],len:=by rintro _ _ _ rfl;rfl,mono:=fun _ _ _ _ _ h=>h,iP:=by rintro _ _ _ rfl;rfl }
abbrev aJ.sl {α:Type} (a:aJ α):aJ (List α) :=
 { k:=1,R:=fun h cs x=>∃ v,cs=[v]∧Sl a h v x,len:=by rintro h cs x ⟨v,rfl,_⟩;rfl
   mono:=by rintro h h' cs x i ⟨v,e,f⟩;exact ⟨v,e,f.mono i⟩
   iP:=by
    rintro h cs x ⟨v,rfl,f⟩
    rcases f with ⟨rfl,_⟩|⟨A,o,c,row,u,ro,rfl,_⟩ <;> rfl }

/-! ### One block turned -/
theorem Ext.iJ {A:Nat} {h h':Heap} (x:Ext h h'):fp A h h':=⟨x.size,fun B h1 _=>x.get B h1,by have:=x.low;omega⟩
theorem fp.trans {A:Nat} {a b c:Heap} (x:fp A a b) (y:fp A b c):fp A a c :=
 ⟨Nat.le_trans x.size y.size,fun B h1 h2=>(y.get B (Nat.lt_of_lt_of_le h1 x.size) h2).trans (x.get B h1 h2),by have:=x.low;have:=y.low;have:=x.size;omega⟩
theorem Ext.step {A:Nat} {h h1 h2:Heap} (z:Ext h h1) (c:fp A h1 h2) (hA:h.size≤A):Ext h h2 :=
 ⟨Nat.le_trans z.size c.size,fun B hB=>(c.get B (Nat.lt_of_lt_of_le hB z.size) (by omega)).trans (z.get B hB),by have:=z.low;have:=z.size;have:=c.low;omega⟩
theorem Ext.cM {A:Nat} {h h1 h2:Heap} {bs:List bh} {w:Nat} (z:Ext h h1) (c:fp A (h1.lay bs w) h2) (hA:h.size≤A) (hw:min h1.low h1.size≤w):Ext h h2:=(z.aw bs w hw).step c hA
theorem Holds.step {A B:Nat} {h1 h2:Heap} {b:bh} (q:Holds h1 B b) (c:fp A h1 h2) (aP:B≠A):Holds h2 B b:=⟨Nat.lt_of_lt_of_le q.lt c.size,(c.get B q.lt aP).trans q.get⟩
theorem Holds.bE {A B:Nat} {h1 h2:Heap} {b:bh} {bs:List bh} {w:Nat} (q:Holds h1 B b) (c:fp A (h1.lay bs w) h2) (aP:B≠A):Holds h2 B b:=(q.on bs w).step c aP
def Ow {α:Type} (r:aJ α) (h0 h:Heap) (e:TypeId) (A:Nat) (v:Value) (l:List α):Prop :=
 (h0.size≤A∧l=[]∧(v=.slice none 0 0∨∃ B o,v=.slice (some ⟨B,o,none⟩) 0 0∧h0.size≤B∧B < h.size∧∃ row u ro,h.get B=some (.row row u ro))) ∨
 ∃ row,v=.slice (some ⟨A,0,none⟩) l.length (G*r.k+l.length)∧l≠[]∧h0.size≤A∧A < h.size∧h.get A=some (.row row e false)∧row.length=l.length*r.k∧l.length≤1152921504606846976 ∧
   ∀ (i:Nat) (x:α),l[i]? = some x→∃ cs,cut row (i*r.k) r.k=some cs∧r.R (h.set A .dead) cs x
theorem cn.kill {h h':Heap} {A:Nat} (i:cn h h') (hA:A < h.size):cn (h.set A .dead) (h'.set A .dead):=⟨i.size,fun B hB hd=>by
 rw [Heap.aD _ _ _ _ hA] at hd ⊢
 rw [Heap.aD _ _ _ _ (Nat.lt_of_lt_of_le hA i.size)]
 split
 ·rfl
 ·rename_i aP
  rw [if_neg aP] at hd
  exact i.get B hB hd⟩
theorem cn.xM {h:Heap} {A:Nat} (hA:A < h.size):cn (h.set A .dead) h:=⟨Nat.le_refl _,fun B hB hd=>by
 rw [Heap.aD _ _ _ _ hA] at hd ⊢
 split
 ·rename_i he;rw [if_pos he] at hd;exact absurd rfl hd
 ·rfl⟩
section
variable {α:Type} {r:aJ α} {h0 h h' h1 h2:Heap} {v:Value} {l:List α} {e:TypeId} {A:Nat}
theorem Ow.fresh (f:Ow r h0 h e A v l):h0.size≤A:=by
 rcases f with f|⟨_,_,_,h1,_⟩
 ·exact f.1
 ·exact h1
theorem Ow.mono (f:Ow r h0 h e A v l) (i:cn h h'):Ow r h0 h' e A v l:=by
 rcases f with ⟨f1,f2,f3⟩|⟨row,e1,e2,e3,e4,e5,e6,e7,e8⟩
 ·refine .inl ⟨f1,f2,f3.imp id ?_⟩
  rintro ⟨B,o,g1,g0,g2,row,u,ro,g3⟩
  exact ⟨B,o,g1,g0,Nat.lt_of_lt_of_le g2 i.size,row,u,ro,i.at g2 g3⟩
 ·refine .inr ⟨row,e1,e2,e3,Nat.lt_of_lt_of_le e4 i.size,i.at e4 e5,e6,e7,fun j x hj=>?_⟩
  obtain ⟨cs,g1,g2⟩:=e8 j x hj
  exact ⟨cs,g1,r.mono _ _ _ _ (i.kill e4) g2⟩
theorem Ow.over {bs:List bh} {w:Nat} (f:Ow r h0 h1 e A v l) (x:Ext (h1.lay bs w) h2):Ow r h0 h2 e A v l:=f.mono x.inc.gg
theorem Ow.nil (hA:h0.size≤A):Ow r h0 h e A (.slice none 0 0) []:=.inl ⟨hA,rfl,.inl rfl⟩
theorem Ow.sl (hk:0 < r.k) (f:Ow r h0 h e A v l):Sl r h v l:=by
 rcases f with ⟨_,rfl,rfl|⟨B,o,rfl,_,g2,row,u,ro,g3⟩⟩|⟨row,e1,e2,e3,e4,e5,e6,e7,e8⟩
 ·exact .nil
 ·exact .inr ⟨B,o,0,row,u,ro,rfl,Nat.zero_le _,.inl ⟨by unfold G;omega,Nat.le_refl _⟩,g2,g3,fun i x hx=>by simp at hx⟩
 ·obtain ⟨c1,c2,c3⟩:=CL (k:=r.k) (q:=l.length) hk (by unfold G;omega)
  refine .inr ⟨A,0,_,row,e,false,e1,by unfold maxLen;omega,.inr ⟨by omega,c3,by omega⟩,e4,e5,fun i x hx=>?_⟩
  obtain ⟨cs,g1,g2⟩:=e8 i x hx
  exact ⟨cs,by simpa using g1,r.mono _ _ _ _ (cn.xM e4) g2⟩
end
/-! ### Appending -/
section
variable {α:Type} {r:aJ α} {h0 h1:Heap} {v x:Value} {l l2:List α} {t e:TypeId} {A k bytes:Nat} {z:List Value} {T:bK} {bs:List bh} {w:Nat} {K:Value→Heap→Prop}
theorem UK {a b c:List Value} {o n:Nat} (hc:cut a o n=some c):cut (a++b) o n=some c:=by
 unfold cut at hc ⊢
 split at hc
 ·rename_i hle
  rw [if_pos (by simp;omega)]
  rw [List.drop_append_of_le_length (by omega),List.take_append_of_le_length (by simp;omega)]
  exact hc
 ·cases hc
theorem Ug {a b c:List Value} {o n:Nat} (hc:cut b o n=some c):cut (a++b) (a.length+o) n=some c:=by
 unfold cut at hc ⊢
 split at hc
 ·rename_i hle
  rw [if_pos (by simp;omega)]
  simp only [Option.some.injEq] at hc ⊢
  rw [← hc,List.drop_append,List.drop_of_length_le (by omega)]
  simp
 ·cases hc
def Src (r:aJ α) (h:Heap) (m:Nat) (news:List Value) (l2:List α):Prop :=
 l2.length=m∧news.length=m*r.k∧news.all one=true∧∀ (i:Nat) (y:α),l2[i]? = some y→∃ cs,cut news (i*r.k) r.k=some cs∧r.R h cs y
def kill (A:Nat) (h:Heap):Heap:=if A < h.size then h.set A .dead else h
theorem Ry (A:Nat) (h:Heap):(kill A h).size=h.size:=by unfold kill;split <;> rfl
theorem zrC (A:Nat) (h:Heap):cn (kill A h) h:=by
 unfold kill
 split
 ·rename_i hA;exact cn.xM hA
 ·exact cn.refl h
theorem zb {h:Heap} (hd:T.desc t=some (.slice e)) (hi:T.info e=some (k,bytes,z)) (DZ:r.k=k) (hk:0 < k) (hz:h0.size≤h.size) (f:Ow r h0 h e A v l) {m:Nat} {news:List Value} (hs:fO x k h=some (m,news)) (mR:Src r (kill A h) m news l2)
 (hb:(l.length+m)*bytes≤140737488355328) (hl:l.length+m≤1152921504606846976) :
 ∃ v' h' A',hZ T t v x h=some (v',h')∧Ow r h0 h' e A' v' (l++l2)∧fp A h h'∧(A'=A∨A'=h.size)∧h0.size≤A':=by
 subst DZ
 obtain ⟨hm,Gz,h1,xg⟩:=mR
 by_cases yv:m=0
 ·subst yv
  have:l2=[]:=List.length_eq_zero_iff.1 hm
  subst this
  refine ⟨v,h,A,?_,by rw [List.append_nil];exact f,(Ext.refl h).iJ,.inl rfl,f.fresh⟩
  unfold hZ
  simp only [hd,hi,hs,Option.bind_some]
  rcases f with ⟨_,_,rfl|⟨B,o,rfl,_⟩⟩|⟨row,rfl,_⟩ <;> simp
 ·have xf:∀ (h2:Heap) (pq:List Value),h2.size=h.size→(∀ B,B < h.size→B≠A→h2.get B=h.get B)→min (min h.low h.size) A≤h2.low →
   (∀ (i:Nat) (y:α),(l++l2)[i]? = some y→∃ cs,cut pq (i*r.k) r.k=some cs∧r.R h2 cs y)→pq.length=(l.length+m)*r.k →
   Ow r h0 (h2.push (.row pq e false)) e h.size (.slice (some ⟨h.size,0,none⟩) (l.length+m) (G*r.k+(l.length+m))) (l++l2)∧fp A h (h2.push (.row pq e false)):=by
   intro h2 pq e1 e2 e3 e4 e5
   have vj:cn h2 ((h2.push (.row pq e false)).set h.size .dead):=⟨by rw [Heap.size_set,Heap.size_push];omega,fun B hB _=>by
    rw [Heap.aD _ _ _ _ (by rw [Heap.size_push];omega),if_neg (by omega),Heap.bu,if_neg (by omega)]⟩
   refine ⟨.inr ⟨pq,by rw [List.length_append,hm],fun hh=>?_,hz,?_,?_,by rw [List.length_append,hm];exact e5,by rw [List.length_append,hm];exact hl,fun i y hy=>?_⟩,?_,?_,?_⟩
   ·have:=congrArg List.length hh
    rw [List.length_append,hm] at this
    simp at this
    omega
   ·rw [Heap.size_push,e1];omega
   ·rw [Heap.bu,if_pos e1.symm]
   ·obtain ⟨cs,c1,c2⟩:=e4 i y hy
    exact ⟨cs,c1,r.mono _ _ _ _ vj c2⟩
   ·rw [Heap.size_push,e1];omega
   ·intro B hB aP
    rw [Heap.bu,if_neg (by omega)]
    exact e2 B hB aP
   ·rw [Heap.de];exact e3
  rcases f with ⟨f1,rfl,f3⟩|⟨row,rfl,e2,e3,e4,e5,e6,e7,e8⟩
  ·-- to nothing
   have key:hZ T t v x h=some (.slice (some ⟨h.size,0,none⟩) m (G*r.k+m),h.push (.row news e false)):=by
    rcases f3 with rfl|⟨B,o,rfl,_,g1,row,u,ro,g2⟩
    ·exact zuo hd hi hk hs (by omega) h1 (by simpa using hb) (by simpa using hl)
    ·unfold hZ
     simp only [hd,hi,hs,Option.bind_some]
     rw [if_neg (by omega),if_neg,if_neg]
     ·have hG:0 < G:=by unfold G;omega
      simp [nc,hG]
     ·have:0 % G=0:=Nat.zero_mod _
      omega
     ·simp only [Bool.or_eq_true,decide_eq_true_eq,Bool.not_eq_true',h1,not_or]
      simp only [List.length_nil] at hb hl
      refine ⟨⟨⟨by omega,by omega⟩,by omega⟩,by simp⟩
   obtain ⟨a,b⟩:=xf h news rfl (fun _ _ _=>rfl) (by omega) (fun i y hy=>by
    obtain ⟨cs,c1,c2⟩:=xg i y (by simpa using hy)
    exact ⟨cs,c1,r.mono _ _ _ _ (zrC A h) c2⟩) (by simpa using Gz)
   refine ⟨_,_,h.size,key,?_,b,.inr rfl,hz⟩
   simpa using a
  ·obtain ⟨c1,c2,c3⟩:=CL (k:=r.k) (q:=l.length) hk (by unfold G;omega)
   have Gv:0 < l.length:=List.length_pos_iff.2 e2
   have key:=zyC (t:=t) (x:=x) hd hi hk e5 e6 Gv hs (by omega) h1 hb hl
   have jA:∀ B,B < h.size→B≠A→(h.set A .dead).get B=h.get B:=fun B hB aP=>by rw [Heap.aD _ _ _ _ e4,if_neg aP]
   have NQ:kill A h=h.set A .dead:=if_pos e4
   rw [NQ] at xg
   obtain ⟨a,b⟩:=xf (h.set A .dead) (row++news) rfl jA (by rw [Heap.bW];omega) (fun i y hy=>by
    by_cases hi:i < l.length
    ·rw [List.getElem?_append_left hi] at hy
     obtain ⟨cs,g1,g2⟩:=e8 i y hy
     exact ⟨cs,UK g1,g2⟩
    ·rw [List.getElem?_append_right (by omega)] at hy
     obtain ⟨cs,g1,g2⟩:=xg _ y hy
     refine ⟨cs,?_,g2⟩
     have:=Ug (a:=row) g1
     rwa [e6,← Nat.add_mul,show l.length+(i - l.length)=i by omega] at this) (by rw [List.length_append,e6,Gz,Nat.add_mul])
   exact ⟨_,_,h.size,key,a,b,.inr rfl,hz⟩
theorem Eu (hd:T.desc t=some (.slice e)) (hi:T.info e=some (k,bytes,z)) (DZ:r.k=k) (hk:0 < k) (hz:h0.size≤h1.size) (f:Ow r h0 h1 e A v l) {m:Nat} {news:List Value} (hs:fO x k (h1.lay bs w)=some (m,news)) (mR:Src r (kill A (h1.lay bs w)) m news l2)
 (hb:(l.length+m)*bytes≤140737488355328) (hl:l.length+m≤1152921504606846976) (hK:∀ v' h' A',Ow r h0 h' e A' v' (l++l2)→fp A (h1.lay bs w) h'→(A'=A∨h1.size≤A')→K v' h'):cq (hZ T t v x (h1.lay bs w)) K:=by
 obtain ⟨v',h',A',g1,g2,g3,g4,g5⟩:=zb hd hi DZ hk (by rw [bm];omega) (f.mono (cn.lay h1 bs w)) hs mR hb hl
 rw [g1]
 refine hK v' h' A' g2 g3 (g4.imp id ?_)
 rintro rfl
 rw [bm]
 omega
theorem J8 {h:Heap} {B c:Nat} {cs:List Value} {u:TypeId} {ro:Bool} {y:α} (hk:0 < r.k) (hg:h.get B=some (.row cs u ro)) (hr:r.R (kill A h) cs y):fO (.slice (some ⟨B,0,none⟩) 1 c) r.k h=some (1,cs)∧Src r (kill A h) 1 cs [y]:=by
 have hl:=r.len _ _ _ hr
 refine ⟨?_,rfl,by rw [hl];omega,r.iP _ _ _ hr,fun i y' hy=>?_⟩
 ·have hc:cut cs 0 r.k=some cs:=by
   unfold cut
   rw [if_pos (by omega),← hl]
   simp
  simp only [fO,nc,Nat.one_mul]
  rw [if_neg (by omega)]
  simp only [gQ,hg,hc,Option.map_some]
 ·cases i with
  |zero =>
   simp at hy
   subst hy
   refine ⟨cs,?_,hr⟩
   unfold cut
   rw [if_pos (by omega),← hl]
   simp
  |succ i=>simp at hy
theorem tk {h:Heap} (hk:0 < r.k) (f:Sl r h x l2) (hf:∀ cs y,r.R h cs y→r.R (kill A h) cs y):∃ news,fO x r.k h=some (l2.length,news)∧Src r (kill A h) l2.length news l2:=by
 rcases f with ⟨rfl,rfl⟩|⟨B,o,c,row,u,ro,rfl,e2,e3,e4,e5,e6⟩
 ·exact ⟨[],rfl,rfl,by simp,rfl,fun i y hy=>by simp at hy⟩
 ·by_cases h0:l2.length=0
  ·have:l2=[]:=List.length_eq_zero_iff.1 h0
   subst this
   exact ⟨[],by simp [fO,nc],rfl,by simp,rfl,fun i y hy=>by simp at hy⟩
  ·have hle:o+l2.length*r.k≤row.length:=by
    obtain ⟨cs,g1,_⟩:=e6 (l2.length - 1) (l2[l2.length - 1]'(by omega)) (by simp)
    unfold cut at g1
    split at g1
    ·rename_i hh
     have:(l2.length - 1)*r.k+r.k=l2.length*r.k:=by rw [← Nat.succ_mul];congr 1;omega
     omega
    ·cases g1
   have kC:0 < l2.length*r.k:=Nat.mul_pos (by omega) hk
   refine ⟨(row.drop o).take (l2.length*r.k),?_,rfl,by rw [List.length_take,List.length_drop];omega,?_,fun i y hy=>?_⟩
   ·simp only [fO,nc]
    rw [if_neg (by omega)]
    simp only [gQ,e5,cut,if_pos hle,Option.map_some]
   ·rw [List.all_eq_true]
    intro v hv
    obtain ⟨j,hj,rfl⟩:=List.getElem_of_mem hv
    rw [List.length_take,List.length_drop] at hj
    have Af:j / r.k < l2.length:=Nat.div_lt_of_lt_mul (by rw [Nat.mul_comm];omega)
    obtain ⟨cs,g1,g2⟩:=e6 (j / r.k) (l2[j / r.k]) (by simp [Af])
    have g3:=List.all_eq_true.1 (r.iP _ _ _ g2)
    apply g3
    unfold cut at g1
    split at g1
    ·simp only [Option.some.injEq] at g1
     rw [← g1]
     refine List.mem_of_getElem? (i:=j % r.k) ?_
     have wZ:=Nat.mod_lt j hk
     rw [List.getElem?_take_of_lt wZ,List.getElem?_drop,List.getElem_take,List.getElem_drop]
     have hdm:=Nat.div_add_mod j r.k
     rw [Nat.mul_comm] at hdm
     rw [show o+j / r.k*r.k+j % r.k=o+j by omega]
     exact List.getElem?_eq_getElem _
    ·cases g1
   ·obtain ⟨cs,g1,g2⟩:=e6 i y hy
    refine ⟨cs,?_,hf _ _ g2⟩
    have hi:=(List.getElem?_eq_some_iff.1 hy).1
    have aL:(i+1)*r.k≤l2.length*r.k:=Nat.mul_le_mul_right _ (by omega)
    rw [Nat.succ_mul] at aL
    unfold cut at g1 ⊢
    split at g1
    ·rw [if_pos (by rw [List.length_take,List.length_drop];omega)]
     simp only [Option.some.injEq] at g1 ⊢
     rw [← g1,List.drop_take,List.drop_drop,List.take_take]
     congr 1
     omega
    ·cases g1
end
end Go.Am
namespace Go.Am
structure aX where
 v:Bool
 s:ByteArray
 deriving DecidableEq
structure ab where
 says:ByteArray
 pred:ByteArray
 n:Int
 t0:aX
 t1:aX
 t2:aX
 t3:aX
 deriving DecidableEq
def aX.cells (t:aX):List Value:=[.bool t.v,.string t.s]
def aX.val (t:aX):Value:=.agg ⟨t.cells⟩
def ab.cells (a:ab):List Value:=[.string a.says,.string a.pred,.int .i64 a.n,.bool a.t0.v,.string a.t0.s,.bool a.t1.v,.string a.t1.s,.bool a.t2.v,.string a.t2.s,.bool a.t3.v,.string a.t3.s]
def ab.val (a:ab):Value:=.agg ⟨a.cells⟩
def ab.arg (a:ab):Nat→aX
 |0=>a.t0
 |1=>a.t1
 |2=>a.t2
 |_=>a.t3
def ab.cL (a:ab):Nat:=min a.n.toNat 4
def ab.args (a:ab):List aX:=[a.t0,a.t1,a.t2,a.t3].take a.cL
def ab.all (a:ab):List aX:=[a.t0,a.t1,a.t2,a.t3]
def cm:aX:=⟨false,⟨#[]⟩⟩
def aj:ab:=⟨⟨#[]⟩,⟨#[]⟩,0,cm,cm,cm,cm⟩
def ab.aT (a:ab):Bool:=decide (a.says.size≤300) && (decide (a.pred.size≤300) && (decide (a.t0.s.size≤300) && (decide (a.t1.s.size≤300) && (decide (a.t2.s.size≤300) && decide (a.t3.s.size≤300)))))
structure bZ where
 head:ab
 body:List ab
 deriving DecidableEq
structure eo where
 atom:ab
 clause:Int
 body:List ab
 deriving DecidableEq
structure iT where
 var:ByteArray
 term:aX
 deriving DecidableEq
def iT.cells (b:iT):List Value:=[.string b.var,.bool b.term.v,.string b.term.s]
def iT.val (b:iT):Value:=.agg ⟨b.cells⟩
abbrev aJ.atom:aJ ab:={ k:=11,R:=fun _ cs x=>cs=x.cells,len:=by rintro _ _ _ rfl;rfl,mono:=fun _ _ _ _ _ h=>h,iP:=by rintro _ _ _ rfl;rfl }
abbrev aJ.term:aJ aX:={ k:=2,R:=fun _ cs x=>cs=x.cells,len:=by rintro _ _ _ rfl;rfl,mono:=fun _ _ _ _ _ h=>h,iP:=by rintro _ _ _ rfl;rfl }
abbrev aJ.bind:aJ iT:={ k:=3,R:=fun _ cs x=>cs=x.cells,len:=by rintro _ _ _ rfl;rfl,mono:=fun _ _ _ _ _ h=>h,iP:=by rintro _ _ _ rfl;rfl }
theorem Sl.one {α:Type} {r:aJ α} {h:Heap} {v:Value} {l:List α} (f:Sl r h v l):one v=true:=by
 rcases f with ⟨rfl,_⟩|⟨A,o,c,row,u,ro,rfl,_⟩ <;> rfl
abbrev aJ.clause:aJ bZ :=
 { k:=12,R:=fun h cs x=>∃ v,cs=x.head.cells++[v]∧Sl aJ.atom h v x.body
   len:=by rintro h cs x ⟨v,rfl,_⟩;rfl
   mono:=by rintro h h' cs x i ⟨v,e,f⟩;exact ⟨v,e,f.mono i⟩
   iP:=by rintro h cs x ⟨v,rfl,f⟩;have:=f.one;simp only [List.all_append,ab.cells,List.all_cons,List.all_nil,this];rfl }
abbrev aJ.reason:aJ eo :=
 { k:=13,R:=fun h cs x=>∃ v,cs=x.atom.cells++[.int .i64 x.clause,v]∧Sl aJ.atom h v x.body
   len:=by rintro h cs x ⟨v,rfl,_⟩;rfl
   mono:=by rintro h h' cs x i ⟨v,e,f⟩;exact ⟨v,e,f.mono i⟩
   iP:=by rintro h cs x ⟨v,rfl,f⟩;have:=f.one;simp only [List.all_append,ab.cells,List.all_cons,List.all_nil,this];rfl }
theorem Dd {a b:ByteArray} (h:a.data.toList=b.data.toList):a=b:=by
 obtain ⟨⟨a⟩⟩:=a
 obtain ⟨⟨b⟩⟩:=b
 simp at h
 rw [h]
theorem U5 (a b:ByteArray):(a.data.toList == b.data.toList)=decide (a=b):=by
 by_cases h:a=b
 ·subst h;simp
 ·have:¬ a.data.toList=b.data.toList:=fun hh=>h (Dd hh)
  rw [decide_eq_false h]
  exact beq_eq_false_iff_ne.2 this
def tx (b:Bool) (r:Option Bool):Option Bool:=(some b).bind fun c=>if c then r else some false
theorem RI (b c:Bool):tx b (some c)=some (b && c):=by cases b <;> rfl
def mC (x y:aX):Option Bool:=tx (x.v == y.v) (tx (x.s.data.toList == y.s.data.toList) (some true))
theorem Ui (x y:aX):mC x y=some (decide (x=y)):=by
 obtain ⟨v,s⟩:=x
 obtain ⟨w,t⟩:=y
 unfold mC
 rw [RI,RI,U5]
 simp only [aX.mk.injEq,Bool.and_true]
 by_cases h1:v=w <;> by_cases h2:s=t <;> simp [h1,h2]
def ZT (a b:ab):Option Bool:=tx (a.says.data.toList == b.says.data.toList) (tx (a.pred.data.toList == b.pred.data.toList) (tx (a.n == b.n)
 (((mC a.t0 b.t0).bind fun c=>if c=true then ((mC a.t1 b.t1).bind fun c=>if c=true then ((mC a.t2 b.t2).bind fun c=>if c=true then ((mC a.t3 b.t3).bind fun c=>if c=true then some true else some false) else some false) else some false) else some false).bind fun c=>if c=true then some true else some false)))
theorem zyO (a b:ab):ZT a b=some (decide (a=b)):=by
 obtain ⟨s,p,n,x0,x1,x2,x3⟩:=a
 obtain ⟨s',p',n',y0,y1,y2,y3⟩:=b
 unfold ZT
 simp only [Ui,Option.bind_some]
 simp only [ab.mk.injEq]
 have key:(if decide (x0=y0)=true then (if decide (x1=y1)=true then (if decide (x2=y2)=true then (if decide (x3=y3)=true then some true else some false) else some false) else some false) else some false)=some (decide (x0=y0∧x1=y1∧x2=y2∧x3=y3)):=by
  by_cases h0:x0=y0 <;> by_cases h1:x1=y1 <;> by_cases h2:x2=y2 <;> by_cases h3:x3=y3 <;> simp [h0,h1,h2,h3]
 rw [key,Option.bind_some]
 have k2:∀ c:Bool,(if c=true then some true else some false)=some c:=by intro c;cases c <;> rfl
 rw [k2,RI,RI,RI,U5,U5]
 congr 1
 by_cases h1:s=s' <;> by_cases h2:p=p' <;> by_cases h3:n=n' <;> simp [h1,h2,h3]
/-! ### Steps on elements -/
def ab.mr (a:ab):List Value:=[.bool a.t0.v,.string a.t0.s,.bool a.t1.v,.string a.t1.s,.bool a.t2.v,.string a.t2.s,.bool a.t3.v,.string a.t3.s]
section
variable {h1:Heap} {bs:List bh} {w:Nat} {T:bK} {K:Value→Heap→Prop} {t e s:TypeId} {v p:Value} {kd:IntKind} {i:Int}
theorem YU {l:List ab} (f:Sl aJ.atom h1 v l) (hd:T.desc t=some (.slice e)) (hs:bJ T e=some 11) (h0:0≤i) (hi:i < l.length) (hk:∀ x p,l[i.toNat]? = some x→eZ h1 p x.cells→K p (h1.lay bs w)):aW (fW T t v (.int kd i)) (h1.lay bs w) K :=
 y9 f hd hs h0 hi fun x p cs hx hr hp=>hk x p hx (hr ▸ hp)
theorem ixt {l:List aX} (f:Sl aJ.term h1 v l) (hd:T.desc t=some (.slice e)) (hs:bJ T e=some 2) (h0:0≤i) (hi:i < l.length) (hk:∀ x p,l[i.toNat]? = some x→eZ h1 p x.cells→K p (h1.lay bs w)):aW (fW T t v (.int kd i)) (h1.lay bs w) K :=
 y9 f hd hs h0 hi fun x p cs hx hr hp=>hk x p hx (hr ▸ hp)
theorem ixs {l:List ByteArray} (f:Sl aJ.str h1 v l) (hd:T.desc t=some (.slice e)) (hs:bJ T e=some 1) (h0:0≤i) (hi:i < l.length) (hk:∀ x p,l[i.toNat]? = some x→eZ h1 p [.string x]→K p (h1.lay bs w)):aW (fW T t v (.int kd i)) (h1.lay bs w) K :=
 y9 f hd hs h0 hi fun x p cs hx hr hp=>hk x p hx (hr ▸ hp)
theorem ixc {l:List bZ} (f:Sl aJ.clause h1 v l) (hd:T.desc t=some (.slice e)) (hs:bJ T e=some 12) (h0:0≤i) (hi:i < l.length) (hk:∀ x p b,l[i.toNat]? = some x→Sl aJ.atom h1 b x.body→eZ h1 p (x.head.cells++[b])→K p (h1.lay bs w)):aW (fW T t v (.int kd i)) (h1.lay bs w) K :=
 y9 f hd hs h0 hi fun x p cs hx ⟨b,hr,hb⟩ hp=>hk x p b hx hb (hr ▸ hp)
theorem mW {x:ab} (f:eZ h1 p x.cells) (hg:aq T t=some true) (hs:bJ T t=some 11) (hk:K x.val (h1.lay bs w)):aW (dI T t p (h1.lay bs w)) (h1.lay bs w) K:=SA f hg hs rfl hk
theorem I8 {x:aX} (f:eZ h1 p x.cells) (hg:aq T t=some true) (hs:bJ T t=some 2) (hk:K x.val (h1.lay bs w)):aW (dI T t p (h1.lay bs w)) (h1.lay bs w) K:=SA f hg hs rfl hk
theorem ldc {x:bZ} {b:Value} (f:eZ h1 p (x.head.cells++[b])) (hg:aq T t=some true) (hs:bJ T t=some 12) (hk:K (.agg ⟨x.head.cells++[b]⟩) (h1.lay bs w)):aW (dI T t p (h1.lay bs w)) (h1.lay bs w) K:=SA f hg hs rfl hk
theorem uX {cs ds:List Value} {j off:Nat} (f:eZ h1 p cs) (k9:∀ A o,dg T s (.pointer (some ⟨A,o,none⟩)) j=some (.pointer (some ⟨A,o+off,none⟩))) (he:(cs.drop off).take ds.length=ds) (hz:0 < ds.length) (hk:∀ q,eZ h1 q ds→K q (h1.lay bs w)):aW (dg T s p j) (h1.lay bs w) K:=by
 have hb:off+ds.length≤cs.length:=by
  have:=congrArg List.length he
  rw [List.length_take,List.length_drop] at this
  omega
 refine zGa ds.length f k9 hb fun q hq=>hk q ?_
 rw [he] at hq
 exact hq
theorem Z9 {x:ab} (f:eZ h1 p (x.cells)) (k9:∀ A o,dg T s (.pointer (some ⟨A,o,none⟩)) 2=some (.pointer (some ⟨A,o+2,none⟩))) (hk:∀ q,eZ h1 q ([.int .i64 x.n])→K q (h1.lay bs w)):aW (dg T s p 2) (h1.lay bs w) K:=uX (ds:=[.int .i64 x.n]) f k9 rfl (Nat.succ_pos _) hk
theorem aaa {x:ab} (f:eZ h1 p (x.cells)) (k9:∀ A o,dg T s (.pointer (some ⟨A,o,none⟩)) 3=some (.pointer (some ⟨A,o+3,none⟩))) (hk:∀ q,eZ h1 q (x.mr)→K q (h1.lay bs w)):aW (dg T s p 3) (h1.lay bs w) K:=uX (ds:=x.mr) f k9 rfl (Nat.succ_pos _) hk
theorem FL {x:bZ} {b:Value} (f:eZ h1 p (x.head.cells++[b])) (k9:∀ A o,dg T s (.pointer (some ⟨A,o,none⟩)) 0=some (.pointer (some ⟨A,o+0,none⟩))) (hk:∀ q,eZ h1 q (x.head.cells)→K q (h1.lay bs w)):aW (dg T s p 0) (h1.lay bs w) K:=uX (ds:=x.head.cells) f k9 rfl (Nat.succ_pos _) hk
theorem FN {x:bZ} {b:Value} (f:eZ h1 p (x.head.cells++[b])) (k9:∀ A o,dg T s (.pointer (some ⟨A,o,none⟩)) 1=some (.pointer (some ⟨A,o+11,none⟩))) (hk:∀ q,eZ h1 q ([b])→K q (h1.lay bs w)):aW (dg T s p 1) (h1.lay bs w) K:=uX (ds:=[b]) f k9 rfl (Nat.succ_pos _) hk
theorem ixg {x:ab} (f:eZ h1 p x.mr) (Ti:∀ A o ik i,fW T s (.pointer (some ⟨A,o,none⟩)) (.int ik i)=if 0≤i∧i < ((4:Nat):Int) then some (.pointer (some ⟨A,o+i.toNat*2,none⟩)) else none) (h0:0≤i) (hi:i < 4) (hk:∀ q,eZ h1 q (x.arg i.toNat).cells→K q (h1.lay bs w)) :
 aW (fW T s p (.int kd i)) (h1.lay bs w) K:=by
 refine zy9 (m:=4) f Ti h0 (by omega) (Nat.le_refl 8) fun q hq=>hk q ?_
 have:i=0∨i=1∨i=2∨i=3:=by omega
 rcases this with rfl|rfl|rfl|rfl <;> exact hq
end
theorem oC {α:Type} {P:α→Prop} {l:List α} {i:Nat} {a:α} (hx:l[i]? = some a) (aB:∀ x∈l.take i,P x) (ha:P a):∀ x∈l.take (i+1),P x:=by
 intro x hm
 rw [List.take_add_one,hx] at hm
 simp only [Option.toList_some,List.mem_append,List.mem_singleton] at hm
 rcases hm with hm|rfl
 ·exact aB x hm
 ·exact ha
theorem Rz {a:ab} (h:a.aT=true) (k:Nat):(a.arg k).s.size≤300:=by
 simp only [ab.aT,Bool.and_eq_true,decide_eq_true_eq] at h
 obtain ⟨_,_,h0,h1,h2,h3⟩:=h
 match k with
 |0=>exact h0
 |1=>exact h1
 |2=>exact h2
 |k+3=>exact h3
theorem TF {a:ab} (h:a.aT=true):a.says.size≤300∧a.pred.size≤300:=by
 simp only [ab.aT,Bool.and_eq_true,decide_eq_true_eq] at h
 exact ⟨h.1,h.2.1⟩
theorem zCY {h:Heap} {a:ab} {u:TypeId} {ro:Bool} {w:Nat}:Sl aJ.atom (h.lay [.row a.cells u ro] w) (.slice (some ⟨h.size+0,0,none⟩) 1 1) [a]:=by
 refine .inr ⟨h.size+0,0,1,a.cells,u,ro,rfl,by simp [maxLen],.inl ⟨by decide,Nat.le_refl 1⟩,by rw [bm];simp,by rw [iR];rfl,fun i x hx=>?_⟩
 cases i with
 |zero =>
  simp at hx
  subst hx
  exact ⟨a.cells,rfl,rfl⟩
 |succ i=>simp at hx
theorem H3 {p:Prop} [Decidable p] {h:Heap} {K:Value→Heap→Prop} (h1:¬ p→K (.bool true) h) (h2:p→K (.bool false) h):rB (!decide p) h K :=
 ⟨fun hp=>h1 (by simpa using hp),fun hp=>h2 (by simpa using hp)⟩
theorem UR {b:Bool} {h:Heap} {K:Value→Heap→Prop} (h1:b=false→K (.bool true) h) (h2:b=true→K (.bool false) h):rB (!b) h K :=
 ⟨fun hp=>h1 (by simpa using hp),fun hp=>h2 (by simpa using hp)⟩
theorem SI {b:Bool} {h:Heap} {K:Value→Heap→Prop} (h1:b=true→K (.bool true) h) (h2:b=false→K (.bool false) h):rB b h K:=⟨h1,h2⟩
end Go.Am
