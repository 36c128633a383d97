/- Slices and pointers by what they hold. No condition. -/
import Derived.Test.YtdplfgoifjjniaaGreatDoorG11
set_option linter.unusedVariables false
namespace Go.Am
structure Rep (α:Type) where
 k:Nat
 R:Heap→List Value→α→Prop
 len:∀ h cs x,R h cs x→cs.length=k
 mono:∀ h h' cs x,Inc h h'→R h cs x→R h' cs x
 ones:∀ h cs x,R h cs x→cs.all one=true
def AtP (h:Heap) (p:Value) (cs:List Value):Prop:=∃ A o row u ro,p=.pointer (some ⟨A,o,none⟩)∧A < h.size∧h.get A=some (.row row u ro)∧cut row o cs.length=some cs
def zz7 (k n c:Nat):Prop:=(c < G∧n≤c)∨(G≤c∧c / G=k∧n≤c % G)
def Sl {α:Type} (r:Rep α) (h:Heap) (v:Value) (l:List α):Prop :=
 (v=.slice none 0 0∧l=[])∨∃ A o c row u ro,v=.slice (some ⟨A,o,none⟩) l.length c∧l.length≤maxLen∧zz7 r.k l.length c∧A < h.size∧h.get A=some (.row row u ro) ∧
  ∀ (i:Nat) (x:α),l[i]? = some x→∃ cs,cut row (o+i*r.k) r.k=some cs∧r.R h cs x
theorem AtP.mono {h h':Heap} {p:Value} {cs:List Value} (f:AtP h p cs) (i:Inc h h'):AtP h' p cs:=by
 obtain ⟨A,o,row,u,ro,rfl,hA,hg,hc⟩:=f
 exact ⟨A,o,row,u,ro,rfl,Nat.lt_of_lt_of_le hA i.size,i.at hA hg,hc⟩
theorem AtP.over {h1 h2:Heap} {p:Value} {cs:List Value} {l:List Blk} {w:Nat} (f:AtP h1 p cs) (x:Ext (h1.lay l w) h2):AtP h2 p cs:=f.mono x.inc.of_lay
theorem Holds.mono {h h':Heap} {A:Nat} {cs:List Value} {u:TypeId} {ro:Bool} (hh:Holds h A (.row cs u ro)) (i:Inc h h'):Holds h' A (.row cs u ro):=⟨Nat.lt_of_lt_of_le hh.lt i.size,i.at hh.lt hh.get⟩
theorem Holds.over {h1 h2:Heap} {A:Nat} {b:Blk} {l:List Blk} {w:Nat} (f:Holds h1 A b) (x:Ext (h1.lay l w) h2):Holds h2 A b:=⟨Nat.lt_of_lt_of_le f.lt x.inc.of_lay.size,(x.get A (by rw [zad];have:=f.lt;omega)).trans (f.lay l w)⟩
section
variable {α:Type} {r:Rep α} {h h' h1 h2:Heap} {v:Value} {l:List α}
theorem Sl.mono (f:Sl r h v l) (i:Inc h h'):Sl r h' v l:=by
 rcases f with f|⟨A,o,c,row,u,ro,e1,e2,e3,e4,e5,e6⟩
 ·exact .inl f
 ·refine .inr ⟨A,o,c,row,u,ro,e1,e2,e3,Nat.lt_of_lt_of_le e4 i.size,i.at e4 e5,fun j x hj=>?_⟩
  obtain ⟨cs,g1,g2⟩:=e6 j x hj
  exact ⟨cs,g1,r.mono _ _ _ _ i g2⟩
theorem Sl.over {bs:List Blk} {w:Nat} (f:Sl r h1 v l) (x:Ext (h1.lay bs w) h2):Sl r h2 v l:=f.mono x.inc.of_lay
theorem Sl.lay (f:Sl r h v l) (bs:List Blk) (w:Nat):Sl r (h.lay bs w) v l:=f.mono (Inc.lay h bs w)
theorem Sl.le (f:Sl r h v l):l.length≤maxLen:=by
 rcases f with ⟨_,rfl⟩|⟨A,o,c,row,u,ro,e1,e2,_⟩
 ·exact Nat.zero_le _
 ·exact e2
theorem Sl.nil:Sl r h (.slice none 0 0) []:=.inl ⟨rfl,rfl⟩
variable {P:Program} {T:Tab} {ov:Ov} {K:Value→Heap→Prop} {t e:TypeId} {bs:List Blk} {w:Nat}
theorem Sl.lenA (f:Sl r h v l) (hd:T.desc t=some (.slice e)) (h2:Heap):lenA T t v h2=some (.int .i64 l.length):=by
 rcases f with ⟨rfl,rfl⟩|⟨A,o,c,row,u,ro,rfl,_⟩
 ·simp [Am.lenA,hd]
 ·simp [Am.lenA,hd]
theorem zsB (f:Sl r h v l) (hd:T.desc t=some (.slice e)) (hk:K (.int .i64 l.length) h1):valE (Am.lenA T t v h1) h1 K:=by rw [f.lenA hd];exact hk
theorem ze4 (f:Sl r h1 v l) (hd:T.desc t=some (.slice e)) (hs:zau T e=some r.k) {kd:IntKind} {i:Int} (h0:0≤i) (hi:i < l.length) (hk:∀ x p cs,l[i.toNat]? = some x→r.R h1 cs x→AtP h1 p cs→K p (h1.lay bs w)) :
 valE (zao T t v (.int kd i)) (h1.lay bs w) K:=by
 rcases f with ⟨rfl,rfl⟩|⟨A,o,c,row,u,ro,rfl,e2,e3,e4,e5,e6⟩
 ·simp at hi;omega
 ·have hlt:i.toNat < l.length:=by omega
  obtain ⟨cs,g1,g2⟩:=e6 i.toNat l[i.toNat] (by simp [hlt])
  unfold zao
  simp only [hd]
  rw [if_pos ⟨h0,hi⟩,hs]
  refine hk _ _ cs (by simp [hlt]) g2 ⟨A,_,row,u,ro,rfl,e4,e5,?_⟩
  rw [r.len _ _ _ g2]
  exact g1
theorem zmp {p:Value} {cs:List Value} {n:Nat} (f:AtP h1 p cs) (hg:aggA T t=some true) (hs:zau T t=some n) (hn:cs.length=n) (hk:K (.agg ⟨cs⟩) (h1.lay bs w)):valE (zaL T t p (h1.lay bs w)) (h1.lay bs w) K:=by
 obtain ⟨A,o,row,u,ro,rfl,hA,hget,hc⟩:=f
 unfold zaL
 simp only [hg,hs,Option.bind_some,if_true,zaI]
 rw [za9 _ _ _ hA,hget]
 simp only
 rw [← hn,hc]
 exact hk
theorem zfO {p x:Value} (f:AtP h1 p [x]) (hg:aggA T t=some false) (hk:K x (h1.lay bs w)):valE (zaL T t p (h1.lay bs w)) (h1.lay bs w) K:=by
 obtain ⟨A,o,row,u,ro,rfl,hA,hget,hc⟩:=f
 unfold zaL
 simp only [hg,Option.bind_some,Bool.false_eq_true,if_false,zaI]
 rw [za9 _ _ _ hA,hget]
 simp only
 rw [show (1:Nat)=[x].length from rfl,hc]
 exact hk
end
/-! ### The usual cells -/
abbrev Rep.str:Rep ByteArray:={ k:=1,R:=fun _ cs x=>cs=[.string x],len:=by rintro _ _ _ rfl;rfl,mono:=fun _ _ _ _ _ h=>h,ones:=by rintro _ _ _ rfl;rfl }
abbrev Rep.int:Rep Int:={ k:=1,R:=fun _ cs x=>cs=[.int .i64 x],len:=by rintro _ _ _ rfl;rfl,mono:=fun _ _ _ _ _ h=>h,ones:=by rintro _ _ _ rfl;rfl }
abbrev Rep.bool:Rep Bool:={ k:=1,R:=fun _ cs x=>cs=[.bool x],len:=by rintro _ _ _ rfl;rfl,mono:=fun _ _ _ _ _ h=>h,ones:=by rintro _ _ _ rfl;rfl }
abbrev Rep.sl {α:Type} (a:Rep α):Rep (List α) :=
 { k:=1,R:=fun h cs x=>∃ v,cs=[v]∧Sl a h v x,len:=by rintro h cs x ⟨v,rfl,_⟩;rfl
   mono:=by rintro h h' cs x i ⟨v,e,f⟩;exact ⟨v,e,f.mono i⟩
   ones:=by
    rintro h cs x ⟨v,rfl,f⟩
    rcases f with ⟨rfl,_⟩|⟨A,o,c,row,u,ro,rfl,_⟩ <;> rfl }

/-! ### One block turned -/
theorem Ext.chg {A:Nat} {h h':Heap} (x:Ext h h'):Chg A h h':=⟨x.size,fun B h1 _=>x.get B h1,by have:=x.low;omega⟩
theorem Chg.trans {A:Nat} {a b c:Heap} (x:Chg A a b) (y:Chg A b c):Chg A a c :=
 ⟨Nat.le_trans x.size y.size,fun B h1 h2=>(y.get B (Nat.lt_of_lt_of_le h1 x.size) h2).trans (x.get B h1 h2),by have:=x.low;have:=y.low;have:=x.size;omega⟩
theorem Ext.step {A:Nat} {h h1 h2:Heap} (z:Ext h h1) (c:Chg A h1 h2) (hA:h.size≤A):Ext h h2 :=
 ⟨Nat.le_trans z.size c.size,fun B hB=>(c.get B (Nat.lt_of_lt_of_le hB z.size) (by omega)).trans (z.get B hB),by have:=z.low;have:=z.size;have:=c.low;omega⟩
theorem Ext.stepW {A:Nat} {h h1 h2:Heap} {bs:List Blk} {w:Nat} (z:Ext h h1) (c:Chg A (h1.lay bs w) h2) (hA:h.size≤A) (hw:min h1.low h1.size≤w):Ext h h2:=(z.upW bs w hw).step c hA
theorem Holds.step {A B:Nat} {h1 h2:Heap} {b:Blk} (q:Holds h1 B b) (c:Chg A h1 h2) (hne:B≠A):Holds h2 B b:=⟨Nat.lt_of_lt_of_le q.lt c.size,(c.get B q.lt hne).trans q.get⟩
theorem Holds.stepL {A B:Nat} {h1 h2:Heap} {b:Blk} {bs:List Blk} {w:Nat} (q:Holds h1 B b) (c:Chg A (h1.lay bs w) h2) (hne:B≠A):Holds h2 B b:=(q.on bs w).step c hne
def Ow {α:Type} (r:Rep α) (h0 h:Heap) (e:TypeId) (A:Nat) (v:Value) (l:List α):Prop :=
 (h0.size≤A∧l=[]∧(v=.slice none 0 0∨∃ B o,v=.slice (some ⟨B,o,none⟩) 0 0∧h0.size≤B∧B < h.size∧∃ row u ro,h.get B=some (.row row u ro))) ∨
 ∃ row,v=.slice (some ⟨A,0,none⟩) l.length (G*r.k+l.length)∧l≠[]∧h0.size≤A∧A < h.size∧h.get A=some (.row row e false)∧row.length=l.length*r.k∧l.length≤1152921504606846976 ∧
   ∀ (i:Nat) (x:α),l[i]? = some x→∃ cs,cut row (i*r.k) r.k=some cs∧r.R (h.set A .dead) cs x
theorem Inc.kill {h h':Heap} {A:Nat} (i:Inc h h') (hA:A < h.size):Inc (h.set A .dead) (h'.set A .dead):=⟨i.size,fun B hB hd=>by
 rw [Heap.get_set _ _ _ _ hA] at hd ⊢
 rw [Heap.get_set _ _ _ _ (Nat.lt_of_lt_of_le hA i.size)]
 split
 ·rfl
 ·rename_i hne
  rw [if_neg hne] at hd
  exact i.get B hB hd⟩
theorem Inc.unkill {h:Heap} {A:Nat} (hA:A < h.size):Inc (h.set A .dead) h:=⟨Nat.le_refl _,fun B hB hd=>by
 rw [Heap.get_set _ _ _ _ hA] at hd ⊢
 split
 ·rename_i he;rw [if_pos he] at hd;exact absurd rfl hd
 ·rfl⟩
section
variable {α:Type} {r:Rep α} {h0 h h' h1 h2:Heap} {v:Value} {l:List α} {e:TypeId} {A:Nat}
theorem Ow.fresh (f:Ow r h0 h e A v l):h0.size≤A:=by
 rcases f with f|⟨_,_,_,h1,_⟩
 ·exact f.1
 ·exact h1
theorem Ow.mono (f:Ow r h0 h e A v l) (i:Inc h h'):Ow r h0 h' e A v l:=by
 rcases f with ⟨f1,f2,f3⟩|⟨row,e1,e2,e3,e4,e5,e6,e7,e8⟩
 ·refine .inl ⟨f1,f2,f3.imp id ?_⟩
  rintro ⟨B,o,g1,g0,g2,row,u,ro,g3⟩
  exact ⟨B,o,g1,g0,Nat.lt_of_lt_of_le g2 i.size,row,u,ro,i.at g2 g3⟩
 ·refine .inr ⟨row,e1,e2,e3,Nat.lt_of_lt_of_le e4 i.size,i.at e4 e5,e6,e7,fun j x hj=>?_⟩
  obtain ⟨cs,g1,g2⟩:=e8 j x hj
  exact ⟨cs,g1,r.mono _ _ _ _ (i.kill e4) g2⟩
theorem Ow.over {bs:List Blk} {w:Nat} (f:Ow r h0 h1 e A v l) (x:Ext (h1.lay bs w) h2):Ow r h0 h2 e A v l:=f.mono x.inc.of_lay
theorem Ow.nil (hA:h0.size≤A):Ow r h0 h e A (.slice none 0 0) []:=.inl ⟨hA,rfl,.inl rfl⟩
theorem Ow.sl (hk:0 < r.k) (f:Ow r h0 h e A v l):Sl r h v l:=by
 rcases f with ⟨_,rfl,rfl|⟨B,o,rfl,_,g2,row,u,ro,g3⟩⟩|⟨row,e1,e2,e3,e4,e5,e6,e7,e8⟩
 ·exact .nil
 ·exact .inr ⟨B,o,0,row,u,ro,rfl,Nat.zero_le _,.inl ⟨by unfold G;omega,Nat.le_refl _⟩,g2,g3,fun i x hx=>by simp at hx⟩
 ·obtain ⟨c1,c2,c3⟩:=zeu (k:=r.k) (q:=l.length) hk (by unfold G;omega)
  refine .inr ⟨A,0,_,row,e,false,e1,by unfold maxLen;omega,.inr ⟨by omega,c3,by omega⟩,e4,e5,fun i x hx=>?_⟩
  obtain ⟨cs,g1,g2⟩:=e8 i x hx
  exact ⟨cs,by simpa using g1,r.mono _ _ _ _ (Inc.unkill e4) g2⟩
end
/-! ### Appending -/
section
variable {α:Type} {r:Rep α} {h0 h1:Heap} {v x:Value} {l l2:List α} {t e:TypeId} {A k bytes:Nat} {z:List Value} {T:Tab} {bs:List Blk} {w:Nat} {K:Value→Heap→Prop}
theorem zrY {a b c:List Value} {o n:Nat} (hc:cut a o n=some c):cut (a++b) o n=some c:=by
 unfold cut at hc ⊢
 split at hc
 ·rename_i hle
  rw [if_pos (by simp;omega)]
  rw [List.drop_append_of_le_length (by omega),List.take_append_of_le_length (by simp;omega)]
  exact hc
 ·cases hc
theorem zpa {a b c:List Value} {o n:Nat} (hc:cut b o n=some c):cut (a++b) (a.length+o) n=some c:=by
 unfold cut at hc ⊢
 split at hc
 ·rename_i hle
  rw [if_pos (by simp;omega)]
  simp only [Option.some.injEq] at hc ⊢
  rw [← hc,List.drop_append,List.drop_of_length_le (by omega)]
  simp
 ·cases hc
def Src (r:Rep α) (h:Heap) (m:Nat) (news:List Value) (l2:List α):Prop :=
 l2.length=m∧news.length=m*r.k∧news.all one=true∧∀ (i:Nat) (y:α),l2[i]? = some y→∃ cs,cut news (i*r.k) r.k=some cs∧r.R h cs y
def kill (A:Nat) (h:Heap):Heap:=if A < h.size then h.set A .dead else h
theorem zbj (A:Nat) (h:Heap):(kill A h).size=h.size:=by unfold kill;split <;> rfl
theorem zfv (A:Nat) (h:Heap):Inc (kill A h) h:=by
 unfold kill
 split
 ·rename_i hA;exact Inc.unkill hA
 ·exact Inc.refl h
theorem zlF {h:Heap} (hd:T.desc t=some (.slice e)) (hi:T.info e=some (k,bytes,z)) (hrk:r.k=k) (hk:0 < k) (hz:h0.size≤h.size) (f:Ow r h0 h e A v l) {m:Nat} {news:List Value} (hs:srcA x k h=some (m,news)) (hsr:Src r (kill A h) m news l2)
 (hb:(l.length+m)*bytes≤140737488355328) (hl:l.length+m≤1152921504606846976) :
 ∃ v' h' A',zaH T t v x h=some (v',h')∧Ow r h0 h' e A' v' (l++l2)∧Chg A h h'∧(A'=A∨A'=h.size)∧h0.size≤A':=by
 subst hrk
 obtain ⟨hm,hnl,h1,hrep⟩:=hsr
 by_cases hm0:m=0
 ·subst hm0
  have:l2=[]:=List.length_eq_zero_iff.1 hm
  subst this
  refine ⟨v,h,A,?_,by rw [List.append_nil];exact f,(Ext.refl h).chg,.inl rfl,f.fresh⟩
  unfold zaH
  simp only [hd,hi,hs,Option.bind_some]
  rcases f with ⟨_,_,rfl|⟨B,o,rfl,_⟩⟩|⟨row,rfl,_⟩ <;> simp
 ·have hpush:∀ (h2:Heap) (row2:List Value),h2.size=h.size→(∀ B,B < h.size→B≠A→h2.get B=h.get B)→min (min h.low h.size) A≤h2.low →
   (∀ (i:Nat) (y:α),(l++l2)[i]? = some y→∃ cs,cut row2 (i*r.k) r.k=some cs∧r.R h2 cs y)→row2.length=(l.length+m)*r.k →
   Ow r h0 (h2.push (.row row2 e false)) e h.size (.slice (some ⟨h.size,0,none⟩) (l.length+m) (G*r.k+(l.length+m))) (l++l2)∧Chg A h (h2.push (.row row2 e false)):=by
   intro h2 row2 e1 e2 e3 e4 e5
   have hi2:Inc h2 ((h2.push (.row row2 e false)).set h.size .dead):=⟨by rw [Heap.size_set,Heap.size_push];omega,fun B hB _=>by
    rw [Heap.get_set _ _ _ _ (by rw [Heap.size_push];omega),if_neg (by omega),Heap.get_push,if_neg (by omega)]⟩
   refine ⟨.inr ⟨row2,by rw [List.length_append,hm],fun hh=>?_,hz,?_,?_,by rw [List.length_append,hm];exact e5,by rw [List.length_append,hm];exact hl,fun i y hy=>?_⟩,?_,?_,?_⟩
   ·have:=congrArg List.length hh
    rw [List.length_append,hm] at this
    simp at this
    omega
   ·rw [Heap.size_push,e1];omega
   ·rw [Heap.get_push,if_pos e1.symm]
   ·obtain ⟨cs,c1,c2⟩:=e4 i y hy
    exact ⟨cs,c1,r.mono _ _ _ _ hi2 c2⟩
   ·rw [Heap.size_push,e1];omega
   ·intro B hB hne
    rw [Heap.get_push,if_neg (by omega)]
    exact e2 B hB hne
   ·rw [Heap.low_push];exact e3
  rcases f with ⟨f1,rfl,f3⟩|⟨row,rfl,e2,e3,e4,e5,e6,e7,e8⟩
  ·-- to nothing
   have key:zaH T t v x h=some (.slice (some ⟨h.size,0,none⟩) m (G*r.k+m),h.push (.row news e false)):=by
    rcases f3 with rfl|⟨B,o,rfl,_,g1,row,u,ro,g2⟩
    ·exact zrE hd hi hk hs (by omega) h1 (by simpa using hb) (by simpa using hl)
    ·unfold zaH
     simp only [hd,hi,hs,Option.bind_some]
     rw [if_neg (by omega),if_neg,if_neg]
     ·have hG:0 < G:=by unfold G;omega
      simp [zbG,hG]
     ·have:0 % G=0:=Nat.zero_mod _
      omega
     ·simp only [Bool.or_eq_true,decide_eq_true_eq,Bool.not_eq_true',h1,not_or]
      simp only [List.length_nil] at hb hl
      refine ⟨⟨⟨by omega,by omega⟩,by omega⟩,by simp⟩
   obtain ⟨a,b⟩:=hpush h news rfl (fun _ _ _=>rfl) (by omega) (fun i y hy=>by
    obtain ⟨cs,c1,c2⟩:=hrep i y (by simpa using hy)
    exact ⟨cs,c1,r.mono _ _ _ _ (zfv A h) c2⟩) (by simpa using hnl)
   refine ⟨_,_,h.size,key,?_,b,.inr rfl,hz⟩
   simpa using a
  ·obtain ⟨c1,c2,c3⟩:=zeu (k:=r.k) (q:=l.length) hk (by unfold G;omega)
   have hlp:0 < l.length:=List.length_pos_iff.2 e2
   have key:=zuQ (t:=t) (x:=x) hd hi hk e5 e6 hlp hs (by omega) h1 hb hl
   have hset:∀ B,B < h.size→B≠A→(h.set A .dead).get B=h.get B:=fun B hB hne=>by rw [Heap.get_set _ _ _ _ e4,if_neg hne]
   have hkill:kill A h=h.set A .dead:=if_pos e4
   rw [hkill] at hrep
   obtain ⟨a,b⟩:=hpush (h.set A .dead) (row++news) rfl hset (by rw [Heap.low_set];omega) (fun i y hy=>by
    by_cases hi:i < l.length
    ·rw [List.getElem?_append_left hi] at hy
     obtain ⟨cs,g1,g2⟩:=e8 i y hy
     exact ⟨cs,zrY g1,g2⟩
    ·rw [List.getElem?_append_right (by omega)] at hy
     obtain ⟨cs,g1,g2⟩:=hrep _ y hy
     refine ⟨cs,?_,g2⟩
     have:=zpa (a:=row) g1
     rwa [e6,← Nat.add_mul,show l.length+(i - l.length)=i by omega] at this) (by rw [List.length_append,e6,hnl,Nat.add_mul])
   exact ⟨_,_,h.size,key,a,b,.inr rfl,hz⟩
theorem Ow.kill {h:Heap} {C:Nat} (hflat:∀ h h' cs x,r.R h cs x→r.R h' cs x) (f:Ow r h0 h e A v l) (hC:C < h0.size):Ow r h0 (kill C h) e A v l:=by
 have get:∀ B,h0.size≤B→(Am.kill C h).get B=h.get B:=by
  intro B hB
  unfold Am.kill
  split
  ·rename_i hh
   rw [Heap.get_set _ _ _ _ hh,if_neg (by omega)]
  ·rfl
 rcases f with ⟨f1,f2,f3⟩|⟨row,e1,e2,e3,e4,e5,e6,e7,e8⟩
 ·refine .inl ⟨f1,f2,f3.imp id ?_⟩
  rintro ⟨B,o,g1,g0,g2,row,u,ro,g3⟩
  exact ⟨B,o,g1,g0,by rw [zbj];exact g2,row,u,ro,(get B g0).trans g3⟩
 ·refine .inr ⟨row,e1,e2,e3,by rw [zbj];exact e4,(get A e3).trans e5,e6,e7,fun i x hx=>?_⟩
  obtain ⟨cs,g1,g2⟩:=e8 i x hx
  exact ⟨cs,g1,hflat _ _ _ _ g2⟩
theorem zrD (hd:T.desc t=some (.slice e)) (hi:T.info e=some (k,bytes,z)) (hrk:r.k=k) (hk:0 < k) (hz:h0.size≤h1.size) (f:Ow r h0 h1 e A v l) {m:Nat} {news:List Value} (hs:srcA x k (h1.lay bs w)=some (m,news)) (hsr:Src r (kill A (h1.lay bs w)) m news l2)
 (hb:(l.length+m)*bytes≤140737488355328) (hl:l.length+m≤1152921504606846976) (hK:∀ v' h' A',Ow r h0 h' e A' v' (l++l2)→Chg A (h1.lay bs w) h'→(A'=A∨h1.size≤A')→K v' h'):optE (zaH T t v x (h1.lay bs w)) K:=by
 obtain ⟨v',h',A',g1,g2,g3,g4,g5⟩:=zlF hd hi hrk hk (by rw [zad];omega) (f.mono (Inc.lay h1 bs w)) hs hsr hb hl
 rw [g1]
 refine hK v' h' A' g2 g3 (g4.imp id ?_)
 rintro rfl
 rw [zad]
 omega
theorem zty {h:Heap} {B c:Nat} {cs:List Value} {u:TypeId} {ro:Bool} {y:α} (hk:0 < r.k) (hg:h.get B=some (.row cs u ro)) (hr:r.R (kill A h) cs y):srcA (.slice (some ⟨B,0,none⟩) 1 c) r.k h=some (1,cs)∧Src r (kill A h) 1 cs [y]:=by
 have hl:=r.len _ _ _ hr
 refine ⟨?_,rfl,by rw [hl];omega,r.ones _ _ _ hr,fun i y' hy=>?_⟩
 ·have hc:cut cs 0 r.k=some cs:=by
   unfold cut
   rw [if_pos (by omega),← hl]
   simp
  simp only [srcA,zbG,Nat.one_mul]
  rw [if_neg (by omega)]
  simp only [zaI,hg,hc,Option.map_some]
 ·cases i with
  |zero =>
   simp at hy
   subst hy
   refine ⟨cs,?_,hr⟩
   unfold cut
   rw [if_pos (by omega),← hl]
   simp
  |succ i=>simp at hy
theorem zpC {h:Heap} (hk:0 < r.k) (f:Sl r h x l2) (hf:∀ cs y,r.R h cs y→r.R (kill A h) cs y):∃ news,srcA x r.k h=some (l2.length,news)∧Src r (kill A h) l2.length news l2:=by
 rcases f with ⟨rfl,rfl⟩|⟨B,o,c,row,u,ro,rfl,e2,e3,e4,e5,e6⟩
 ·exact ⟨[],rfl,rfl,by simp,rfl,fun i y hy=>by simp at hy⟩
 ·by_cases h0:l2.length=0
  ·have:l2=[]:=List.length_eq_zero_iff.1 h0
   subst this
   exact ⟨[],by simp [srcA,zbG],rfl,by simp,rfl,fun i y hy=>by simp at hy⟩
  ·have hle:o+l2.length*r.k≤row.length:=by
    obtain ⟨cs,g1,_⟩:=e6 (l2.length - 1) (l2[l2.length - 1]'(by omega)) (by simp)
    unfold cut at g1
    split at g1
    ·rename_i hh
     have:(l2.length - 1)*r.k+r.k=l2.length*r.k:=by rw [← Nat.succ_mul];congr 1;omega
     omega
    ·cases g1
   have hpos:0 < l2.length*r.k:=Nat.mul_pos (by omega) hk
   refine ⟨(row.drop o).take (l2.length*r.k),?_,rfl,by rw [List.length_take,List.length_drop];omega,?_,fun i y hy=>?_⟩
   ·simp only [srcA,zbG]
    rw [if_neg (by omega)]
    simp only [zaI,e5,cut,if_pos hle,Option.map_some]
   ·rw [List.all_eq_true]
    intro v hv
    obtain ⟨j,hj,rfl⟩:=List.getElem_of_mem hv
    rw [List.length_take,List.length_drop] at hj
    have hjk:j / r.k < l2.length:=Nat.div_lt_of_lt_mul (by rw [Nat.mul_comm];omega)
    obtain ⟨cs,g1,g2⟩:=e6 (j / r.k) (l2[j / r.k]) (by simp [hjk])
    have g3:=List.all_eq_true.1 (r.ones _ _ _ g2)
    apply g3
    unfold cut at g1
    split at g1
    ·simp only [Option.some.injEq] at g1
     rw [← g1]
     refine List.mem_of_getElem? (i:=j % r.k) ?_
     have hmod:=Nat.mod_lt j hk
     rw [List.getElem?_take_of_lt hmod,List.getElem?_drop,List.getElem_take,List.getElem_drop]
     have hdm:=Nat.div_add_mod j r.k
     rw [Nat.mul_comm] at hdm
     rw [show o+j / r.k*r.k+j % r.k=o+j by omega]
     exact List.getElem?_eq_getElem _
    ·cases g1
   ·obtain ⟨cs,g1,g2⟩:=e6 i y hy
    refine ⟨cs,?_,hf _ _ g2⟩
    have hi:=(List.getElem?_eq_some_iff.1 hy).1
    have hin:(i+1)*r.k≤l2.length*r.k:=Nat.mul_le_mul_right _ (by omega)
    rw [Nat.succ_mul] at hin
    unfold cut at g1 ⊢
    split at g1
    ·rw [if_pos (by rw [List.length_take,List.length_drop];omega)]
     simp only [Option.some.injEq] at g1 ⊢
     rw [← g1,List.drop_take,List.drop_drop,List.take_take]
     congr 1
     omega
    ·cases g1
end
end Go.Am
namespace Go.Am
structure TermD where
 v:Bool
 s:ByteArray
 deriving DecidableEq
structure AtomD where
 says:ByteArray
 pred:ByteArray
 n:Int
 t0:TermD
 t1:TermD
 t2:TermD
 t3:TermD
 deriving DecidableEq
def TermD.cells (t:TermD):List Value:=[.bool t.v,.string t.s]
def TermD.val (t:TermD):Value:=.agg ⟨t.cells⟩
def AtomD.cells (a:AtomD):List Value:=[.string a.says,.string a.pred,.int .i64 a.n,.bool a.t0.v,.string a.t0.s,.bool a.t1.v,.string a.t1.s,.bool a.t2.v,.string a.t2.s,.bool a.t3.v,.string a.t3.s]
def AtomD.val (a:AtomD):Value:=.agg ⟨a.cells⟩
def AtomD.arg (a:AtomD):Nat→TermD
 |0=>a.t0
 |1=>a.t1
 |2=>a.t2
 |_=>a.t3
def AtomD.cnt (a:AtomD):Nat:=min a.n.toNat 4
def AtomD.args (a:AtomD):List TermD:=[a.t0,a.t1,a.t2,a.t3].take a.cnt
def AtomD.all (a:AtomD):List TermD:=[a.t0,a.t1,a.t2,a.t3]
def zaX:TermD:=⟨false,⟨#[]⟩⟩
def noAtomD:AtomD:=⟨⟨#[]⟩,⟨#[]⟩,0,zaX,zaX,zaX,zaX⟩
def AtomD.light (a:AtomD):Bool:=decide (a.says.size≤300) && (decide (a.pred.size≤300) && (decide (a.t0.s.size≤300) && (decide (a.t1.s.size≤300) && (decide (a.t2.s.size≤300) && decide (a.t3.s.size≤300)))))
structure ClauseD where
 head:AtomD
 body:List AtomD
 deriving DecidableEq
structure ReasonD where
 atom:AtomD
 clause:Int
 body:List AtomD
 deriving DecidableEq
structure BindD where
 var:ByteArray
 term:TermD
 deriving DecidableEq
def BindD.cells (b:BindD):List Value:=[.string b.var,.bool b.term.v,.string b.term.s]
def BindD.val (b:BindD):Value:=.agg ⟨b.cells⟩
abbrev Rep.atom:Rep AtomD:={ k:=11,R:=fun _ cs x=>cs=x.cells,len:=by rintro _ _ _ rfl;rfl,mono:=fun _ _ _ _ _ h=>h,ones:=by rintro _ _ _ rfl;rfl }
abbrev Rep.term:Rep TermD:={ k:=2,R:=fun _ cs x=>cs=x.cells,len:=by rintro _ _ _ rfl;rfl,mono:=fun _ _ _ _ _ h=>h,ones:=by rintro _ _ _ rfl;rfl }
abbrev Rep.bind:Rep BindD:={ k:=3,R:=fun _ cs x=>cs=x.cells,len:=by rintro _ _ _ rfl;rfl,mono:=fun _ _ _ _ _ h=>h,ones:=by rintro _ _ _ rfl;rfl }
theorem Sl.one {α:Type} {r:Rep α} {h:Heap} {v:Value} {l:List α} (f:Sl r h v l):one v=true:=by
 rcases f with ⟨rfl,_⟩|⟨A,o,c,row,u,ro,rfl,_⟩ <;> rfl
abbrev Rep.clause:Rep ClauseD :=
 { k:=12,R:=fun h cs x=>∃ v,cs=x.head.cells++[v]∧Sl Rep.atom h v x.body
   len:=by rintro h cs x ⟨v,rfl,_⟩;rfl
   mono:=by rintro h h' cs x i ⟨v,e,f⟩;exact ⟨v,e,f.mono i⟩
   ones:=by rintro h cs x ⟨v,rfl,f⟩;have:=f.one;simp only [List.all_append,AtomD.cells,List.all_cons,List.all_nil,this];rfl }
abbrev Rep.reason:Rep ReasonD :=
 { k:=13,R:=fun h cs x=>∃ v,cs=x.atom.cells++[.int .i64 x.clause,v]∧Sl Rep.atom h v x.body
   len:=by rintro h cs x ⟨v,rfl,_⟩;rfl
   mono:=by rintro h h' cs x i ⟨v,e,f⟩;exact ⟨v,e,f.mono i⟩
   ones:=by rintro h cs x ⟨v,rfl,f⟩;have:=f.one;simp only [List.all_append,AtomD.cells,List.all_cons,List.all_nil,this];rfl }
theorem zhZ {a b:ByteArray} (h:a.data.toList=b.data.toList):a=b:=by
 obtain ⟨⟨a⟩⟩:=a
 obtain ⟨⟨b⟩⟩:=b
 simp at h
 rw [h]
theorem zzV (a b:ByteArray):(a.data.toList == b.data.toList)=decide (a=b):=by
 by_cases h:a=b
 ·subst h;simp
 ·have:¬ a.data.toList=b.data.toList:=fun hh=>h (zhZ hh)
  rw [decide_eq_false h]
  exact beq_eq_false_iff_ne.2 this
def andO (b:Bool) (r:Option Bool):Option Bool:=(some b).bind fun c=>if c then r else some false
theorem zlE (b c:Bool):andO b (some c)=some (b && c):=by cases b <;> rfl
def eqT (x y:TermD):Option Bool:=andO (x.v == y.v) (andO (x.s.data.toList == y.s.data.toList) (some true))
theorem zu1 (x y:TermD):eqT x y=some (decide (x=y)):=by
 obtain ⟨v,s⟩:=x
 obtain ⟨w,t⟩:=y
 unfold eqT
 rw [zlE,zlE,zzV]
 simp only [TermD.mk.injEq,Bool.and_true]
 by_cases h1:v=w <;> by_cases h2:s=t <;> simp [h1,h2]
/-! ### Steps on elements -/
section
variable {h1:Heap} {bs:List Blk} {w:Nat} {T:Tab} {K:Value→Heap→Prop} {t e s:TypeId} {v p:Value} {kd:IntKind} {i:Int}
theorem ixa {l:List AtomD} (f:Sl Rep.atom h1 v l) (hd:T.desc t=some (.slice e)) (hs:zau T e=some 11) (h0:0≤i) (hi:i < l.length) (hk:∀ x p,l[i.toNat]? = some x→AtP h1 p x.cells→K p (h1.lay bs w)):valE (zao T t v (.int kd i)) (h1.lay bs w) K :=
 ze4 f hd hs h0 hi fun x p cs hx hr hp=>hk x p hx (hr ▸ hp)
theorem ixt {l:List TermD} (f:Sl Rep.term h1 v l) (hd:T.desc t=some (.slice e)) (hs:zau T e=some 2) (h0:0≤i) (hi:i < l.length) (hk:∀ x p,l[i.toNat]? = some x→AtP h1 p x.cells→K p (h1.lay bs w)):valE (zao T t v (.int kd i)) (h1.lay bs w) K :=
 ze4 f hd hs h0 hi fun x p cs hx hr hp=>hk x p hx (hr ▸ hp)
theorem ixs {l:List ByteArray} (f:Sl Rep.str h1 v l) (hd:T.desc t=some (.slice e)) (hs:zau T e=some 1) (h0:0≤i) (hi:i < l.length) (hk:∀ x p,l[i.toNat]? = some x→AtP h1 p [.string x]→K p (h1.lay bs w)):valE (zao T t v (.int kd i)) (h1.lay bs w) K :=
 ze4 f hd hs h0 hi fun x p cs hx hr hp=>hk x p hx (hr ▸ hp)
theorem ixc {l:List ClauseD} (f:Sl Rep.clause h1 v l) (hd:T.desc t=some (.slice e)) (hs:zau T e=some 12) (h0:0≤i) (hi:i < l.length) (hk:∀ x p b,l[i.toNat]? = some x→Sl Rep.atom h1 b x.body→AtP h1 p (x.head.cells++[b])→K p (h1.lay bs w)):valE (zao T t v (.int kd i)) (h1.lay bs w) K :=
 ze4 f hd hs h0 hi fun x p cs hx ⟨b,hr,hb⟩ hp=>hk x p b hx hb (hr ▸ hp)
theorem lda {x:AtomD} (f:AtP h1 p x.cells) (hg:aggA T t=some true) (hs:zau T t=some 11) (hk:K x.val (h1.lay bs w)):valE (zaL T t p (h1.lay bs w)) (h1.lay bs w) K:=zmp f hg hs rfl hk
theorem ldt {x:TermD} (f:AtP h1 p x.cells) (hg:aggA T t=some true) (hs:zau T t=some 2) (hk:K x.val (h1.lay bs w)):valE (zaL T t p (h1.lay bs w)) (h1.lay bs w) K:=zmp f hg hs rfl hk
theorem ldc {x:ClauseD} {b:Value} (f:AtP h1 p (x.head.cells++[b])) (hg:aggA T t=some true) (hs:zau T t=some 12) (hk:K (.agg ⟨x.head.cells++[b]⟩) (h1.lay bs w)):valE (zaL T t p (h1.lay bs w)) (h1.lay bs w) K:=zmp f hg hs rfl hk
end
theorem zeC {α:Type} {P:α→Prop} {l:List α} {i:Nat} {a:α} (hx:l[i]? = some a) (hall:∀ x∈l.take i,P x) (ha:P a):∀ x∈l.take (i+1),P x:=by
 intro x hm
 rw [List.take_add_one,hx] at hm
 simp only [Option.toList_some,List.mem_append,List.mem_singleton] at hm
 rcases hm with hm|rfl
 ·exact hall x hm
 ·exact ha
theorem zoM {s:ByteArray} (h:¬ s=⟨#[]⟩):(0:Int) < s.size:=by
 refine Int.natCast_pos.2 (Nat.pos_of_ne_zero ?_)
 intro hh
 apply h
 obtain ⟨⟨l⟩⟩:=s
 simp [ByteArray.size] at hh
 rw [hh]
theorem zgu {a:AtomD} (h:a.light=true) (k:Nat):(a.arg k).s.size≤300:=by
 simp only [AtomD.light,Bool.and_eq_true,decide_eq_true_eq] at h
 obtain ⟨_,_,h0,h1,h2,h3⟩:=h
 match k with
 |0=>exact h0
 |1=>exact h1
 |2=>exact h2
 |k+3=>exact h3
theorem zqj {a:AtomD} (h:a.light=true):a.says.size≤300∧a.pred.size≤300:=by
 simp only [AtomD.light,Bool.and_eq_true,decide_eq_true_eq] at h
 exact ⟨h.1,h.2.1⟩
theorem zhq {p:Prop} [Decidable p] {h:Heap} {K:Value→Heap→Prop} (h1:¬ p→K (.bool true) h) (h2:p→K (.bool false) h):zfG (!decide p) h K :=
 ⟨fun hp=>h1 (by simpa using hp),fun hp=>h2 (by simpa using hp)⟩
theorem zg6 {b:Bool} {h:Heap} {K:Value→Heap→Prop} (h1:b=false→K (.bool true) h) (h2:b=true→K (.bool false) h):zfG (!b) h K :=
 ⟨fun hp=>h1 (by simpa using hp),fun hp=>h2 (by simpa using hp)⟩
theorem zvb {b:Bool} {h:Heap} {K:Value→Heap→Prop} (h1:b=true→K (.bool true) h) (h2:b=false→K (.bool false) h):zfG b h K:=⟨h1,h2⟩
end Go.Am
