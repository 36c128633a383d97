/- Ranges over functions that turn three blocks: a map's, a box, the elements behind it. No condition. -/
import Derived.Test.YtdplfgoifjjniaaGreatDoorG28
import Derived.Test.YtdplfgoifjjniaaGreatDoorGIfx
set_option linter.unusedSimpArgs false
set_option linter.unusedVariables false
namespace Go.Am
def dk (M X A:Nat) (h:Heap):Heap:=kill A (kill X (kill M h))
theorem zDQ (M X A:Nat) (h:Heap):cP (dk M X A h) h:=(Gp _ _).trans ((Gp _ _).trans (Gp _ _))
theorem zDP {M X A C:Nat} {h:Heap} (h1:C≠A) (h2:C≠X) (h3:C≠M):(dk M X A h).get C=h.get C:=by
 unfold dk
 rw [Ez h1,Ez h2,Ez h3]
theorem zoz {M X A C:Nat} {h:Heap} (hC:C < h.size) (hd:C=A∨C=X∨C=M):(dk M X A h).get C=some .dead:=by
 unfold dk
 by_cases h1:C=A
 ·subst h1
  exact Md (by rw [OY,OY];exact hC)
 rw [Ez h1]
 by_cases h2:C=X
 ·subst h2
  exact Md (by rw [OY];exact hC)
 rw [Ez h2]
 have h3:C=M:=by rcases hd with h|h|h <;> first|exact absurd h h1|exact absurd h h2|exact h
 subst h3
 exact Md hC
theorem zGL {M X A C:Nat} {h:Heap} (hC:C < h.size) (hd:(dk M X A h).get C≠some .dead):C≠A∧C≠X∧C≠M :=
 ⟨fun e=>hd (zoz hC (.inl e)),fun e=>hd (zoz hC (.inr (.inl e))),fun e=>hd (zoz hC (.inr (.inr e)))⟩
structure Kn (M X:Nat) (B:Heap) (A:Nat) (h:Heap):Prop where
 m:M < h.size
 x:X < h.size
 lt:A < h.size
 inc:cP B (dk M X A h)
section
variable {M X A A' C:Nat} {B h h1 h2:Heap} {bs:List bh} {w:Nat} {b:bh}
theorem Kn.all (k:Kn M X B A h1):cP B h1:=k.inc.trans (zDQ _ _ _ _)
theorem Kn.holds (k:Kn M X B A h1) (q:Holds B C b) (hb:b≠.dead):Holds h1 C b∧C≠A∧C≠X∧C≠M:=by
 have hC:C < h1.size:=Nat.lt_of_lt_of_le q.lt k.all.size
 have hg:=k.inc.get C q.lt (by rw [q.get];exact fun e=>hb (Option.some.inj e))
 rw [q.get] at hg
 have aO:=zGL hC (by rw [hg];exact fun e=>hb (Option.some.inj e))
 exact ⟨⟨hC,by rw [← hg,zDP aO.1 aO.2.1 aO.2.2]⟩,aO⟩
end
section
variable {α:Type} {r:aK α} {h0 h0' h h' h1 h2:Heap} {e:TypeId} {v:Value} {l:List α}
end
section
variable {P:Program} {T:bD} {ov:Ov} {M X:Nat} {h0:Heap} {J:List (List gR)→Nat→Heap→Prop} {fy:Value}
structure Sm (L:Nat) (h h':Heap):Prop where
 size:h.size≤h'.size
 get:∀ B,B < h.size→B≠L→h'.get B=h.get B
theorem fK.sm {L:Nat} {h h':Heap} (c:fK L h h'):Sm L h h':=⟨c.size,c.get⟩
theorem Ext.sm {h h':Heap} (x:Ext h h') (L:Nat):Sm L h h':=⟨x.size,fun B hB _=>x.get B hB⟩
theorem Holds.sm {L C:Nat} {h h':Heap} {b:bh} (q:Holds h C b) (s:Sm L h h') (aO:C≠L):Holds h' C b:=⟨Nat.lt_of_lt_of_le q.lt s.size,(s.get C q.lt aO).trans q.get⟩
structure Stb (N M X:Nat) (J:List (List gR)→Nat→Heap→Prop):Prop where
 m:M < N
 x:X < N
 lt:∀ {done A h},J done A h→M < h.size∧X < h.size∧A < h.size
 sm:∀ {done A h1 h2 L},J done A h1→Sm L h1 h2→N≤L→L≠A→J done A h2
structure JJ (N M X:Nat) (J:List (List gR)→Nat→Heap→Prop) (done:List (List gR)) (A:Nat) (h:Heap):Prop where
 st:Stb N M X J
 j:J done A h
end
theorem Ow.sm {α:Type} {r:aK α} {h0 h h':Heap} {e:TypeId} {A L:Nat} {v:Value} {l:List α} (oK:∀ h h' cs x,r.R h cs x→r.R h' cs x) (f:Ow r h0 h e A v l) (c:Sm L h h') (hL:L≠A) (hn:l=[]→∀ B o x n c,v=.slice (some ⟨B,o,x⟩) n c→B≠L):Ow r h0 h' e A v l:=by
 rcases f with ⟨e1,e2,e3⟩|⟨row,e1,e2,e3,e4,e5,e6,e7,e8⟩
 ·refine .inl ⟨e1,e2,?_⟩
  rcases e3 with e3|⟨B,o,g1,g2,g3,row,u,ro,g4⟩
  ·exact .inl e3
  ·exact .inr ⟨B,o,g1,g2,Nat.lt_of_lt_of_le g3 c.size,row,u,ro,by rw [c.get B g3 (hn e2 _ _ _ _ _ g1)];exact g4⟩
 ·refine .inr ⟨row,e1,e2,e3,Nat.lt_of_lt_of_le e4 c.size,by rw [c.get A e4 (Ne.symm hL)];exact e5,e6,e7,fun i x hx=>?_⟩
  obtain ⟨cs,g1,g2⟩:=e8 i x hx
  exact ⟨cs,g1,oK _ _ _ _ g2⟩
theorem eZ.sm {κ:Type} {kv:κ→Value} {h h':Heap} {A L:Nat} {met:List κ} (m:eZ kv h A met) (c:Sm L h h') (aO:A≠L):eZ kv h' A met:=by
 obtain ⟨es,cl,ks,m1,m2,m3⟩:=m
 exact ⟨es,cl,ks,m1.sm c aO,m2,m3⟩
structure RJ (hb:Heap) (N:Nat) (u1 u2:TypeId) (M X:Nat) (facts heads:List ab) (A:Nat) (h:Heap):Prop where
 lt:M < h.size∧X < h.size∧A < h.size
 map:∃ met,eZ ab.val h M met∧∀ a,a∈met↔a∈heads
 out:∃ (v:Value) (out:List ab),Holds h X (.row [v] u1 false)∧(∀ a,a∈out↔a∈facts∨a∈heads)∧out.length≤facts.length+heads.length∧Ow aK.atom hb h u2 A v out∧(out≠[]→A≠X∧A≠M)∧(out=[]→A=X∧∀ B o x n c,v=.slice (some ⟨B,o,x⟩) n c→B < N)
theorem RJ.sm {hb h1 h2:Heap} {N M X A L:Nat} {u1 u2:TypeId} {facts heads:List ab} (f:RJ hb N u1 u2 M X facts heads A h1) (hM:M < N) (hX:X < N) (c:Sm L h1 h2) (hN:N≤L) (hL:L≠A):RJ hb N u1 u2 M X facts heads A h2:=by
 obtain ⟨⟨f1,f2,f3⟩,⟨met,m1,m2⟩,v,out,o1,o2,o3,o4,o5,o6⟩:=f
 have hs:=c.size
 exact ⟨by omega,⟨met,m1.sm c (by omega),m2⟩,v,out,o1.sm c (by omega),o2,o3,o4.sm (fun _ _ _ _ h=>h) c hL (fun e B o x n c hv=>by have:=(o6 e).2 B o x n c hv;omega),o5,o6⟩
end Go.Am
namespace Go.Am
structure aT (D:List Nat) (h h':Heap):Prop where
 size:h.size≤h'.size
 get:∀ B,B < h.size→B ∉ D→h'.get B=h.get B
section
variable {D D':List Nat} {a b c h h1 h2:Heap} {A B w:Nat} {bs:List bh} {k:bh}
theorem aT.refl (D:List Nat) (h:Heap):aT D h h:=⟨Nat.le_refl _,fun _ _ _=>rfl⟩
theorem Ext.dL (x:Ext a b) (D:List Nat):aT D a b:=⟨x.size,fun B hB _=>x.get B hB⟩
theorem fK.dL (x:fK A a b) (hA:A∈D):aT D a b:=⟨x.size,fun B hB hD=>x.get B hB (fun e=>hD (e ▸ hA))⟩
theorem aT.lay (a:Heap) (bs:List bh) (w:Nat) (D:List Nat):aT D a (a.lay bs w):=⟨by rw [bB];omega,fun B hB _=>Bi a bs w hB⟩
theorem aT.trans (f:aT D a b) (g:aT D' b c) (hD:∀ B∈D',B∈D∨a.size≤B):aT D a c :=
 ⟨Nat.le_trans f.size g.size,fun B hB hn=>(g.get B (Nat.lt_of_lt_of_le hB f.size) (fun hh=>(hD B hh).elim hn (fun e=>by omega))).trans (f.get B hB hn)⟩
theorem aT.over (f:aT D a h1) (x:Ext (h1.lay bs w) h2):aT D a h2:=(f.trans (aT.lay h1 bs w []) (fun _ h=>nomatch h)).trans (x.dL []) (fun _ h=>nomatch h)
theorem aT.ku (f:aT D a h1) (x:fK A (h1.lay bs w) h2) (hA:A∈D∨a.size≤A):aT D a h2 :=
 (f.trans (aT.lay h1 bs w []) (fun _ h=>nomatch h)).trans (x.dL (D:=[A]) (by simp)) (fun B hB=>by rw [List.mem_singleton.1 hB];exact hA)
theorem aT.mono (f:aT D a b) (hs:∀ B∈D,B∈D'):aT D' a b:=⟨f.size,fun B hB hn=>f.get B hB (fun h=>hn (hs B h))⟩
theorem Holds.dL (q:Holds a B k) (f:aT D a b) (hB:B ∉ D):Holds b B k:=⟨Nat.lt_of_lt_of_le q.lt f.size,(f.get B q.lt hB).trans q.get⟩
theorem aT.all (f:aT [] a b):cP a b:=⟨f.size,fun B hB _=>f.get B hB (by simp)⟩
theorem Holds.fD (q:Holds a B k) (f:aT [] a b):Holds b B k:=⟨Nat.lt_of_lt_of_le q.lt f.size,(f.get B q.lt (by simp)).trans q.get⟩
def aN:List Nat→Heap→Heap
 | [],h=>h
 |A::D,h=>kill A (aN D h)
theorem jn:∀ (D:List Nat) (h:Heap),(aN D h).size=h.size
 | [],_=>rfl
 |A::D,h=>by unfold aN;rw [OY,jn D h]
theorem qt:∀ (D:List Nat) (h:Heap),cP (aN D h) h
 | [],h=>cP.refl h
 |A::D,h=>(Gp A _).trans (qt D h)
theorem n9:∀ {D:List Nat} {h:Heap} {B:Nat},B ∉ D→(aN D h).get B=h.get B
 | [],_,_,_=>rfl
 |A::D,h,B,hn=>by
  unfold aN
  rw [Ez (fun e=>hn (by rw [e];exact List.mem_cons_self)),n9 (fun hh=>hn (List.mem_cons_of_mem _ hh))]
theorem vY:∀ {D:List Nat} {h:Heap} {B:Nat},B∈D→B < h.size→(aN D h).get B=some .dead
 |A::D,h,B,hm,hB=>by
  unfold aN
  by_cases he:B=A
  ·subst he;exact Md (by rw [jn];exact hB)
  ·rw [Ez he]
   exact vY ((List.mem_cons.1 hm).resolve_left he) hB
theorem aT.inc (f:aT D a b) (hD:∀ B∈D',B∈D∨a.size≤B):cP (aN D a) (aN D' b):=by
 refine ⟨by rw [jn,jn];exact f.size,fun B hB hd=>?_⟩
 rw [jn] at hB
 have hn:B ∉ D:=fun hh=>hd (vY hh hB)
 rw [n9 hn,n9 (fun hh=>(hD B hh).elim hn (fun e=>by omega))]
 exact f.get B hB hn
end
theorem Ow.aN {α:Type} {r:aK α} {h0 h:Heap} {e:TypeId} {A:Nat} {v:Value} {l:List α} {D:List Nat} (f:Ow r h0 h e A v l) (oK:∀ h h' cs x,r.R h cs x→r.R h' cs x) (hk:0 < r.k) (hD:∀ B∈D,B < h0.size):Sl r (aN D h) v l:=by
 have jA:∀ {B},h0.size≤B→B ∉ D:=fun hB hh=>by have:=hD _ hh;omega
 rcases f with ⟨_,rfl,rfl|⟨B,o,rfl,g0,g2,row,u,ro,g3⟩⟩|⟨row,e1,e2,e3,e4,e5,e6,e7,e8⟩
 ·exact .nil
 ·exact .inr ⟨B,o,0,row,u,ro,rfl,Nat.zero_le _,.inl ⟨by unfold G;omega,Nat.le_refl _⟩,by rw [jn];exact g2,by rw [n9 (jA g0)];exact g3,fun i x hx=>by simp at hx⟩
 ·obtain ⟨c1,c2,c3⟩:=zP (k:=r.k) (q:=l.length) hk (by unfold G;omega)
  refine .inr ⟨A,0,_,row,e,false,e1,by unfold maxLen;omega,.inr ⟨by omega,c3,by omega⟩,by rw [jn];exact e4,by rw [n9 (jA e3)];exact e5,fun i x hx=>?_⟩
  obtain ⟨cs,g1,g2⟩:=e8 i x hx
  exact ⟨cs,by simpa using g1,oK _ _ _ _ g2⟩
theorem Ow.turn {α:Type} {r:aK α} {h0 h h':Heap} {e:TypeId} {A C:Nat} {v:Value} {l:List α} {row:List Value} {u:TypeId} {ro:Bool} (oK:∀ h h' cs x,r.R h cs x→r.R h' cs x) (f:Ow r h0 h e A v l) (c:fK C h h') (hC:C≠A) (q:Holds h' C (.row row u ro)):Ow r h0 h' e A v l:=by
 rcases f with ⟨e1,e2,e3⟩|⟨row,e1,e2,e3,e4,e5,e6,e7,e8⟩
 ·refine .inl ⟨e1,e2,?_⟩
  rcases e3 with e3|⟨B,o,g1,g0,g2,nI,u2,ro2,g3⟩
  ·exact .inl e3
  ·refine .inr ⟨B,o,g1,g0,Nat.lt_of_lt_of_le g2 c.size,?_⟩
   by_cases hB:B=C
   ·subst hB;exact ⟨_,_,_,q.get⟩
   ·exact ⟨nI,u2,ro2,by rw [c.get B g2 hB];exact g3⟩
 ·refine .inr ⟨row,e1,e2,e3,Nat.lt_of_lt_of_le e4 c.size,by rw [c.get A e4 (Ne.symm hC)];exact e5,e6,e7,fun i x hx=>?_⟩
  obtain ⟨cs,g1,g2⟩:=e8 i x hx
  exact ⟨cs,g1,oK _ _ _ _ g2⟩
/-! ### Rows of a fixed kind, turned in place -/
def dD {α:Type} (k:Nat) (cell:α→List Value) (h:Heap) (u:TypeId) (A:Nat) (v:Value) (l:List α):Prop :=
 (v=.slice none 0 0∧l=[])∨∃ (q:Nat) (row:List Value),v=.slice (some ⟨A,0,none⟩) l.length (G*k+q)∧Holds h A (.row row u false)∧row.length=q*k∧l.length≤q∧q≤1000000000∧∀ (i:Nat) (x:α),l[i]? = some x→cut row (i*k) k=some (cell x)
section
variable {α:Type} {k:Nat} {cell:α→List Value} {h h1 h2:Heap} {u:TypeId} {A:Nat} {v:Value} {l:List α} {T:bD} {t e:TypeId} {K:Value→Heap→Prop} {bs:List bh} {w i:Nat} {x y:α} {kd:IntKind}
theorem dD.nil:dD k cell h u A (.slice none 0 0) []:=.inl ⟨rfl,rfl⟩
theorem dD.hold (f:dD k cell h u A v l) (hO:∀ b,Holds h A b→Holds h1 A b):dD k cell h1 u A v l:=by
 rcases f with f|⟨q,row,e1,e2,e3⟩
 ·exact .inl f
 ·exact .inr ⟨q,row,e1,hO _ e2,e3⟩
theorem dD.over (f:dD k cell h1 u A v l) (x:Ext (h1.lay bs w) h2):dD k cell h2 u A v l:=f.hold fun b q=>q.over x
theorem dD.lay (f:dD k cell h1 u A v l) (bs:List bh) (w:Nat):dD k cell (h1.lay bs w) u A v l:=f.hold fun b q=>q.on bs w
theorem dD.bR {B:Nat} (f:dD k cell h1 u A v l) (c:fK B (h1.lay bs w) h2) (aO:A≠B):dD k cell h2 u A v l:=f.hold fun b q=>q.bR c aO
theorem dD.dL {D:List Nat} (f:dD k cell h1 u A v l) (c:aT D h1 h2) (aO:A ∉ D):dD k cell h2 u A v l:=f.hold fun b q=>q.dL c aO
theorem dD.bd (f:dD k cell h u A v l) (hd:T.desc t=some (.slice e)) (h2:Heap):Am.bd T t v h2=some (.int .i64 l.length):=by
 rcases f with ⟨rfl,rfl⟩|⟨q,row,rfl,_⟩
 ·simp [Am.bd,hd]
 ·simp [Am.bd,hd]
theorem dD.shape (f:dD k cell h u A v l):∃ a n c,v=.slice a n c:=by
 rcases f with ⟨rfl,rfl⟩|⟨q,row,rfl,_⟩
 ·exact ⟨_,_,_,rfl⟩
 ·exact ⟨_,_,_,rfl⟩
theorem dD.nE (f:dD k cell h u A v l):l.length≤1000000000:=by
 rcases f with ⟨_,rfl⟩|⟨q,row,_,_,_,h1,h2,_⟩
 ·exact Nat.zero_le _
 ·omega
theorem dD.ix (f:dD k cell h u A v l) (hd:T.desc t=some (.slice e)) (hs:bO T e=some k) (hi:i < l.length):fM T t v (.int kd (i:Nat))=some (.pointer (some ⟨A,i*k,none⟩)):=by
 rcases f with ⟨_,rfl⟩|⟨q,row,rfl,e2,e3,e4,e5,e6⟩
 ·simp at hi
 ·unfold fM
  simp only [hd]
  rw [if_pos ⟨by omega,by omega⟩,hs]
  simp
theorem dD.row (f:dD k cell h u A v l) (hx:l[i]? = some x):∃ row,Holds h A (.row row u false)∧cut row (i*k) k=some (cell x):=by
 rcases f with ⟨_,rfl⟩|⟨q,row,rfl,e2,e3,e4,e5,e6⟩
 ·simp at hx
 ·exact ⟨row,e2,e6 i x hx⟩
theorem dD.lt (f:dD k cell h u A v l) (aO:l≠[]):A < h.size:=by
 rcases f with ⟨_,rfl⟩|⟨q,row,rfl,e2,_⟩
 ·exact absurd rfl aO
 ·exact e2.lt
theorem Y5 {cs vs:List Value} {o:Nat} (hb:o+vs.length≤cs.length) (j:Nat):(ay cs o vs)[j]? = if j < o then cs[j]? else if j < o+vs.length then vs[j - o]? else cs[j]? := by
 unfold ay
 rw [List.append_assoc,List.getElem?_append,List.length_take,Nat.min_eq_left (by omega)]
 by_cases h1:j < o
 ·rw [if_pos h1,if_pos h1,List.getElem?_take,if_pos h1]
 ·rw [if_neg h1,if_neg h1,List.getElem?_append]
  by_cases h2:j < o+vs.length
  ·rw [if_pos (by omega),if_pos h2]
  ·rw [if_neg (by omega),if_neg h2,List.getElem?_drop]
   congr 1
   omega
theorem zgV {cs vs:List Value} {o:Nat} (hb:o+vs.length≤cs.length):(ay cs o vs).length=cs.length:=by
 unfold ay;rw [List.length_append,List.length_append,List.length_take,List.length_drop];omega
theorem zir {row vs cs:List Value} {o n off:Nat} (hc:cut row o n=some cs) (hb:off+vs.length≤n):cut (ay row (o+off) vs) o n=some (ay cs off vs):=by
 unfold cut at hc ⊢
 split at hc
 ·rename_i hle
  simp only [Option.some.injEq] at hc
  have Ax:cs.length=n:=by rw [← hc,List.length_take,List.length_drop];omega
  rw [if_pos (by rw [zgV (by omega)];exact hle)]
  congr 1
  apply List.ext_getElem?
  intro j
  rw [List.getElem?_take,List.getElem?_drop,Y5 (by omega),Y5 (by omega),← hc,List.getElem?_take,List.getElem?_drop]
  by_cases hj:j < n
  ·rw [if_pos hj,if_pos hj]
   by_cases h1:j < off
   ·rw [if_pos (by omega),if_pos h1]
   ·rw [if_neg (by omega),if_neg h1]
    by_cases h2:j < off+vs.length
    ·rw [if_pos (by omega),if_pos h2]
     congr 1
     omega
    ·rw [if_neg (by omega),if_neg h2]
  ·rw [if_neg hj,if_neg hj,if_neg (by omega),if_neg (by omega)]
 ·cases hc
theorem zeS {row vs cs:List Value} {o o2 n:Nat} (hc:cut row o n=some cs) (hb:o2+vs.length≤row.length) (hd:o+n≤o2∨o2+vs.length≤o):cut (ay row o2 vs) o n=some cs:=by
 unfold cut at hc ⊢
 split at hc
 ·rename_i hle
  simp only [Option.some.injEq] at hc
  rw [if_pos (by rw [zgV hb];exact hle),← hc]
  congr 1
  apply List.ext_getElem?
  intro j
  rw [List.getElem?_take,List.getElem?_take,List.getElem?_drop,List.getElem?_drop,Y5 hb]
  by_cases hj:j < n
  ·rw [if_pos hj,if_pos hj]
   rcases hd with hd|hd
   ·rw [if_pos (by omega)]
   ·rw [if_neg (by omega),if_neg (by omega)]
  ·rw [if_neg hj,if_neg hj]
 ·cases hc
theorem dD.store {n off:Nat} {vs:List Value} {val:Value} (kU:∀ x,(cell x).length=k) (f:dD k cell h1 u A v l) (hx:l[i]? = some x) (hs:bO T t=some n) (qj:off+n≤k) (hv:val.cells.toList=vs) (hl:vs.length=n) (bE:vs.all one=true) (hy:ay (cell x) off vs=cell y)
 (hK:∀ h',dD k cell h' u A v (l.set i y)→fK A (h1.lay bs w) h'→K undef h'):gv (gA T t (.pointer (some ⟨A,i*k+off,none⟩)) val (h1.lay bs w)) K:=by
 have hi:i < l.length:=(List.getElem?_eq_some_iff.1 hx).1
 rcases f with ⟨_,rfl⟩|⟨q,row,rfl,e2,e3,e4,e5,e6⟩
 ·simp at hi
 have hb:i*k+off+n≤row.length:=by
  rw [e3]
  calc i*k+off+n≤i*k+k:=by omega
   _=(i+1)*k:=by rw [Nat.succ_mul]
   _≤q*k:=Nat.mul_le_mul_right _ (by omega)
 have hg:(h1.lay bs w).get A=some (.row row u false):=e2.lay bs w
 have hA:A < (h1.lay bs w).size:=(e2.on bs w).lt
 have dB:val.cells.size=n:=by rw [← hl,← hv];simp
 have he:gA T t (.pointer (some ⟨A,i*k+off,none⟩)) val (h1.lay bs w)=some ((h1.lay bs w).set A (.row (ay row (i*k+off) vs) u false)):=by
  unfold gA
  simp only [hs,Option.bind_some]
  rw [if_pos dB,hv]
  unfold kW
  rw [hg]
  simp only
  rw [if_pos (by simp only [Bool.and_eq_true,decide_eq_true_eq];exact ⟨by omega,bE⟩)]
 rw [he]
 refine hK _ (.inr ⟨q,ay row (i*k+off) vs,by rw [List.length_set],Bq hA,?_,by rw [List.length_set];exact e4,e5,fun j z hz=>?_⟩) (vo hA)
 ·unfold ay;rw [List.length_append,List.length_append,List.length_take,List.length_drop];omega
 ·rw [List.getElem?_set] at hz
  by_cases dh:i=j
  ·rw [if_pos dh,if_pos hi] at hz
   cases hz
   rw [← dh,← hy]
   exact zir (e6 i x hx) (by omega)
  ·rw [if_neg dh] at hz
   refine zeS (e6 j z hz) (by omega) ?_
   rcases Nat.lt_or_gt_of_ne dh with h|h
   ·right
    have:(i+1)*k≤j*k:=Nat.mul_le_mul_right _ (by omega)
    rw [Nat.succ_mul] at this
    omega
   ·left
    have:(j+1)*k≤i*k:=Nat.mul_le_mul_right _ (by omega)
    rw [Nat.succ_mul] at this
    omega
theorem dD.nK {n:Nat} {vs:List Value} {val:Value} (kU:∀ x,(cell x).length=k) (f:dD k cell h1 u A v l) (hx:l[i]? = some x) (hs:bO T t=some n) (qj:n≤k) (hv:val.cells.toList=vs) (hl:vs.length=n) (bE:vs.all one=true) (hy:ay (cell x) 0 vs=cell y)
 (hK:∀ h',dD k cell h' u A v (l.set i y)→fK A (h1.lay bs w) h'→K undef h'):gv (gA T t (.pointer (some ⟨A,i*k,none⟩)) val (h1.lay bs w)) K:=dD.store (off:=0) kU f hx hs (by omega) hv hl bE hy hK
theorem dD.ot {x:Value} {y:α} (f:dD 1 cell h1 u A v l) (hx:l[i]? = some y) (hc:cell y=[x]) (bs:List bh) (w:Nat):lH ((h1.lay bs w).get A) (i*1)=some x:=by
 obtain ⟨row,q,c⟩:=f.row hx
 rw [hc] at c
 have hg:=q.lay bs w
 rw [hg]
 unfold cut at c
 split at c
 ·rename_i hle
  simp only [Option.some.injEq] at c
  show row[i*1]? = some x
  have:=congrArg (fun l=>l[0]?) c
  simp only [List.getElem?_take,List.getElem?_drop] at this
  simpa using this
 ·cases c
theorem zmi {q:Nat} (hk:0 < k) (hq:q≤1000000000):(G*k+q) % G=q∧(G*k+q) / G=k∧G≤G*k+q:=by
 have hG:1000000000 < G:=by unfold G;omega
 refine ⟨?_,?_,?_⟩
 ·rw [Nat.mul_add_mod,Nat.mod_eq_of_lt (by omega)]
 ·rw [Nat.mul_add_div (by omega),Nat.div_eq_of_lt (by omega),Nat.add_zero]
 ·have:G*1≤G*k:=Nat.mul_le_mul_left _ hk
  omega
theorem dD.app {bytes j:Nat} {z:List Value} {u2:TypeId} {ro:Bool} {c:Nat} (kU:∀ x,(cell x).length=k) (bw:(cell x).all one=true) (hk:0 < k) (hd:T.desc t=some (.slice u)) (hi:T.info u=some (k,bytes,z)) (f:dD k cell h1 u A v l) (hg:bs[j]? = some (.row (cell x) u2 ro)) (hl:l.length < 900000000) (hb:(l.length+1)*bytes≤140737488355328)
 (hK:∀ v' h' A',dD k cell h' u A' v' (l++[x])→(A'=A∧A < h1.size∨A'=(h1.lay bs w).size)→(v=.slice none 0 0→Ext (h1.lay bs w) h')→(A < h1.size→fK A (h1.lay bs w) h')→K v' h') :
 bW (il T t v (.slice (some ⟨h1.size+j,0,none⟩) 1 c) (h1.lay bs w)) K:=by
 have qd:(h1.lay bs w).get (h1.size+j)=some (.row (cell x) u2 ro):=by rw [kX];exact hg
 have xk:j < bs.length:=(List.getElem?_eq_some_iff.1 hg).1
 have hs:fI (.slice (some ⟨h1.size+j,0,none⟩) 1 c) k (h1.lay bs w)=some (1,cell x):=by
  unfold fI lU
  simp only [Nat.one_mul]
  rw [if_neg (by omega)]
  unfold gL
  rw [qd]
  simp only
  unfold cut
  rw [if_pos (by rw [kU];omega),List.drop_zero,List.take_of_length_le (by rw [kU];exact Nat.le_refl _)]
  rfl
 have jz:∀ (h2:Heap) (row:List Value),row.length=(l.length+1)*k→(∀ (i:Nat) (y:α),(l++[x])[i]? = some y→cut row (i*k) k=some (cell y)) →
  dD k cell (h2.push (.row row u false)) u h2.size (.slice (some ⟨h2.size,0,none⟩) (l.length+1) (G*k+(l.length+1))) (l++[x]):=fun h2 row e1 e2 =>
  .inr ⟨l.length+1,row,by rw [List.length_append];rfl,⟨by rw [Heap.size_push];omega,by rw [Heap.bL,if_pos rfl]⟩,e1,by rw [List.length_append];exact Nat.le_refl _,by omega,e2⟩
 rcases f with ⟨rfl,rfl⟩|⟨q,row,rfl,e2,e3,e4,e5,e6⟩
 ·have key:=zsN hd hi hk hs (by omega) bw (by simpa using hb) (by omega)
  rw [key]
  refine hK _ _ _ (jz _ (cell x) (by rw [kU];simp) (fun i y hy=>?_)) (.inr rfl) (fun _=>?_) (fun hA=>?_)
  ·cases i with
   |zero =>
    simp at hy
    subst hy
    unfold cut
    rw [if_pos (by rw [kU];omega),Nat.zero_mul,List.drop_zero,List.take_of_length_le (by rw [kU];exact Nat.le_refl _)]
   |succ i=>simp at hy
  ·exact Ext.push _ _
  ·exact (Ext.push _ _).ku
 ·obtain ⟨c1,c2,c3⟩:=zmi (k:=k) (q:=q) hk e5
  have pw:(h1.lay bs w).get A=some (.row row u false):=e2.lay bs w
  have hA:A < (h1.lay bs w).size:=(e2.on bs w).lt
  unfold il
  simp only [hd,hi,hs,Option.bind_some]
  rw [if_neg (by omega),if_neg (by
   simp only [Bool.or_eq_true,decide_eq_true_eq,Bool.not_eq_true',not_or]
   refine ⟨⟨⟨by omega,by omega⟩,by omega⟩,by rw [bw];decide⟩),c1]
  by_cases hq:l.length+1≤q
  ·rw [if_pos hq,if_pos (by simp [c2])]
   have nW:0+l.length*k+(cell x).length≤row.length:=by
    rw [e3,kU]
    have:(l.length+1)*k≤q*k:=Nat.mul_le_mul_right _ hq
    rw [Nat.succ_mul] at this
    omega
   have hw:kW A (0+l.length*k) (cell x) (h1.lay bs w)=some ((h1.lay bs w).set A (.row (ay row (0+l.length*k) (cell x)) u false)):=by
    unfold kW
    rw [pw]
    simp only
    rw [if_pos (by simp only [Bool.and_eq_true,decide_eq_true_eq];exact ⟨nW,bw⟩)]
   rw [hw]
   refine hK _ _ A (.inr ⟨q,ay row (0+l.length*k) (cell x),by rw [List.length_append];rfl,Bq hA,?_,by rw [List.length_append];exact hq,e5,fun j z hz=>?_⟩) (.inl ⟨rfl,e2.lt⟩) (fun h=>by cases h) (fun _=>vo hA)
   ·unfold ay;rw [List.length_append,List.length_append,List.length_take,List.length_drop];omega
   ·rw [Nat.zero_add] at nW ⊢
    rw [List.getElem?_append] at hz
    by_cases hj:j < l.length
    ·rw [if_pos hj] at hz
     refine zeS (e6 j z hz) nW (.inl ?_)
     have:(j+1)*k≤l.length*k:=Nat.mul_le_mul_right _ hj
     rw [Nat.succ_mul] at this
     exact this
    ·rw [if_neg hj] at hz
     have xk:j=l.length:=by
      have:=(List.getElem?_eq_some_iff.1 hz).1
      simp only [List.length_singleton] at this
      omega
     subst xk
     rw [Nat.sub_self,List.getElem?_cons_zero] at hz
     cases hz
     unfold cut ay
     rw [if_pos (by rw [List.length_append,List.length_append,List.length_take,List.length_drop,kU];rw [kU] at nW;omega),List.append_assoc,List.drop_append,List.length_take,List.drop_of_length_le (by rw [List.length_take];omega),List.nil_append]
     rw [show l.length*k - min (l.length*k) row.length=0 by omega,List.drop_zero,List.take_append_of_le_length (by rw [kU];exact Nat.le_refl _),List.take_of_length_le (by rw [kU];exact Nat.le_refl _)]
  ·rw [if_neg hq]
   have rS:l.length=q:=by omega
   have hc:lU (.slice (some ⟨A,0,none⟩) l.length (G*k+q)) k (h1.lay bs w)=some row:=by
    unfold lU
    simp only
    by_cases h0:l.length*k=0
    ·rw [if_pos h0]
     congr 1
     rw [rS,← e3] at h0
     exact (List.length_eq_zero_iff.1 h0).symm
    ·rw [if_neg h0]
     unfold gL
     rw [pw]
     simp only
     unfold cut
     rw [if_pos (by rw [e3,rS];omega),List.drop_zero,List.take_of_length_le (by rw [e3,rS];exact Nat.le_refl _)]
   rw [hc]
   simp only [Option.bind_some]
   rw [if_neg (by omega)]
   simp only [pw]
   rw [if_pos (by simp [c2])]
   have iH:((h1.lay bs w).set A .dead).size=(h1.lay bs w).size:=Heap.size_set _ _ _
   have hn:=jz ((h1.lay bs w).set A .dead) (row++cell x) (by rw [List.length_append,kU,e3,rS,Nat.succ_mul]) (fun i y hy=>by
    rw [List.getElem?_append] at hy
    by_cases hj:i < l.length
    ·rw [if_pos hj] at hy
     exact zs8 (e6 i y hy)
    ·rw [if_neg hj] at hy
     have xk:i=l.length:=by
      have:=(List.getElem?_eq_some_iff.1 hy).1
      simp only [List.length_singleton] at this
      omega
     subst xk
     rw [Nat.sub_self,List.getElem?_cons_zero] at hy
     cases hy
     have:=zpZ (a:=row) (b:=cell x) (o:=0) (n:=k) (c:=cell x) (by unfold cut;rw [if_pos (by rw [kU];omega),List.drop_zero,List.take_of_length_le (by rw [kU];exact Nat.le_refl _)])
     rw [Nat.add_zero,e3,← rS] at this
     exact this)
   rw [iH] at hn
   exact hK _ _ _ hn (.inr rfl) (fun h=>by cases h) (fun _=>((vo hA).trans (Ext.push _ _).ku))
theorem dD.pop {n:Nat} (hk:0 < k) (hd:T.desc t=some (.slice u)) (hs:bO T u=some k) (f:dD k cell h u A v l) (hn:n≤l.length) (aO:l≠[]):∃ v',kf T t v none (some (.int kd (n:Nat))) none=some v'∧dD k cell h u A v' (l.take n):=by
 rcases f with ⟨_,rfl⟩|⟨q,row,rfl,e2,e3,e4,e5,e6⟩
 ·exact absurd rfl aO
 ·obtain ⟨c1,c2,c3⟩:=zmi (k:=k) (q:=q) hk e5
  refine ⟨.slice (some ⟨A,0,none⟩) n (G*k+q),?_,.inr ⟨q,row,by rw [List.length_take,Nat.min_eq_left hn],e2,e3,by rw [List.length_take];omega,e5,fun i x hx=>e6 i x ?_⟩⟩
  ·unfold kf pF vA
   simp only [hd,hs,Option.bind_some]
   rw [if_neg (by omega)]
   simp only [c2,if_true,c1]
   rw [if_pos (by omega)]
   simp
  ·rw [List.getElem?_take] at hx
   split at hx
   ·exact hx
   ·cases hx
end
end Go.Am
