/- Ranges over functions that turn three blocks: a map's, a box, the elements behind it. No condition. -/
import Derived.Test.YtkgojconmeeegaaGreatDoorG25
import Derived.Test.YtkgojconmeeegaaGreatDoorGIfx
set_option linter.unusedSimpArgs false
set_option linter.unusedVariables false
namespace Go.Am
def dk (M X A:Nat) (h:Heap):Heap:=kill A (kill X (kill M h))
structure Kn (M X:Nat) (B:Heap) (A:Nat) (h:Heap):Prop where
 m:M < h.size
 x:X < h.size
 lt:A < h.size
 inc:cn B (dk M X A h)
section
variable {M X A A' C:Nat} {B h h1 h2:Heap} {bs:List bh} {w:Nat} {b:bh}
end
section
variable {α:Type} {r:aJ α} {h0 h0' h h' h1 h2:Heap} {e:TypeId} {v:Value} {l:List α}
end
section
variable {P:Program} {T:bK} {ov:Ov} {M X:Nat} {h0:Heap} {J:List (List iT)→Nat→Heap→Prop} {fy:Value}
structure Sm (L:Nat) (h h':Heap):Prop where
 size:h.size≤h'.size
 get:∀ B,B < h.size→B≠L→h'.get B=h.get B
theorem fp.sm {L:Nat} {h h':Heap} (c:fp L h h'):Sm L h h':=⟨c.size,c.get⟩
theorem Ext.sm {h h':Heap} (x:Ext h h') (L:Nat):Sm L h h':=⟨x.size,fun B hB _=>x.get B hB⟩
theorem Holds.sm {L C:Nat} {h h':Heap} {b:bh} (q:Holds h C b) (s:Sm L h h') (aP:C≠L):Holds h' C b:=⟨Nat.lt_of_lt_of_le q.lt s.size,(s.get C q.lt aP).trans q.get⟩
structure Stb (N M X:Nat) (J:List (List iT)→Nat→Heap→Prop):Prop where
 m:M < N
 x:X < N
 lt:∀ {done A h},J done A h→M < h.size∧X < h.size∧A < h.size
 sm:∀ {done A h1 h2 L},J done A h1→Sm L h1 h2→N≤L→L≠A→J done A h2
structure JJ (N M X:Nat) (J:List (List iT)→Nat→Heap→Prop) (done:List (List iT)) (A:Nat) (h:Heap):Prop where
 st:Stb N M X J
 j:J done A h
end
theorem Ow.sm {α:Type} {r:aJ α} {h0 h h':Heap} {e:TypeId} {A L:Nat} {v:Value} {l:List α} (qt:∀ h h' cs x,r.R h cs x→r.R h' cs x) (f:Ow r h0 h e A v l) (c:Sm L h h') (hL:L≠A) (hn:l=[]→∀ B o x n c,v=.slice (some ⟨B,o,x⟩) n c→B≠L):Ow r h0 h' e A v l:=by
 rcases f with ⟨e1,e2,e3⟩|⟨row,e1,e2,e3,e4,e5,e6,e7,e8⟩
 ·refine .inl ⟨e1,e2,?_⟩
  rcases e3 with e3|⟨B,o,g1,g2,g3,row,u,ro,g4⟩
  ·exact .inl e3
  ·exact .inr ⟨B,o,g1,g2,Nat.lt_of_lt_of_le g3 c.size,row,u,ro,by rw [c.get B g3 (hn e2 _ _ _ _ _ g1)];exact g4⟩
 ·refine .inr ⟨row,e1,e2,e3,Nat.lt_of_lt_of_le e4 c.size,by rw [c.get A e4 (Ne.symm hL)];exact e5,e6,e7,fun i x hx=>?_⟩
  obtain ⟨cs,g1,g2⟩:=e8 i x hx
  exact ⟨cs,g1,qt _ _ _ _ g2⟩
theorem fJ.sm {κ:Type} {kv:κ→Value} {h h':Heap} {A L:Nat} {met:List κ} (m:fJ kv h A met) (c:Sm L h h') (aP:A≠L):fJ kv h' A met:=by
 obtain ⟨es,cl,ks,m1,m2,m3⟩:=m
 exact ⟨es,cl,ks,m1.sm c aP,m2,m3⟩
structure RJ (hb:Heap) (N:Nat) (u1 u2:TypeId) (M X:Nat) (facts heads:List ab) (A:Nat) (h:Heap):Prop where
 lt:M < h.size∧X < h.size∧A < h.size
 map:∃ met,fJ ab.val h M met∧∀ a,a∈met↔a∈heads
 out:∃ (v:Value) (out:List ab),Holds h X (.row [v] u1 false)∧(∀ a,a∈out↔a∈facts∨a∈heads)∧out.length≤facts.length+heads.length∧Ow aJ.atom hb h u2 A v out∧(out≠[]→A≠X∧A≠M)∧(out=[]→A=X∧∀ B o x n c,v=.slice (some ⟨B,o,x⟩) n c→B < N)
theorem RJ.sm {hb h1 h2:Heap} {N M X A L:Nat} {u1 u2:TypeId} {facts heads:List ab} (f:RJ hb N u1 u2 M X facts heads A h1) (hM:M < N) (hX:X < N) (c:Sm L h1 h2) (hN:N≤L) (hL:L≠A):RJ hb N u1 u2 M X facts heads A h2:=by
 obtain ⟨⟨f1,f2,f3⟩,⟨met,m1,m2⟩,v,out,o1,o2,o3,o4,o5,o6⟩:=f
 have hs:=c.size
 exact ⟨by omega,⟨met,m1.sm c (by omega),m2⟩,v,out,o1.sm c (by omega),o2,o3,o4.sm (fun _ _ _ _ h=>h) c hL (fun e B o x n c hv=>by have:=(o6 e).2 B o x n c hv;omega),o5,o6⟩
end Go.Am
namespace Go.Am
structure aM (D:List Nat) (h h':Heap):Prop where
 size:h.size≤h'.size
 get:∀ B,B < h.size→B ∉ D→h'.get B=h.get B
section
variable {D D':List Nat} {a b c h h1 h2:Heap} {A B w:Nat} {bs:List bh} {k:bh}
theorem aM.refl (D:List Nat) (h:Heap):aM D h h:=⟨Nat.le_refl _,fun _ _ _=>rfl⟩
theorem Ext.bX (x:Ext a b) (D:List Nat):aM D a b:=⟨x.size,fun B hB _=>x.get B hB⟩
theorem fp.bX (x:fp A a b) (hA:A∈D):aM D a b:=⟨x.size,fun B hB hD=>x.get B hB (fun e=>hD (e ▸ hA))⟩
theorem aM.lay (a:Heap) (bs:List bh) (w:Nat) (D:List Nat):aM D a (a.lay bs w):=⟨by rw [bm];omega,fun B hB _=>Ek a bs w hB⟩
theorem aM.trans (f:aM D a b) (g:aM D' b c) (hD:∀ B∈D',B∈D∨a.size≤B):aM D a c :=
 ⟨Nat.le_trans f.size g.size,fun B hB hn=>(g.get B (Nat.lt_of_lt_of_le hB f.size) (fun hh=>(hD B hh).elim hn (fun e=>by omega))).trans (f.get B hB hn)⟩
theorem aM.over (f:aM D a h1) (x:Ext (h1.lay bs w) h2):aM D a h2:=(f.trans (aM.lay h1 bs w []) (fun _ h=>nomatch h)).trans (x.bX []) (fun _ h=>nomatch h)
theorem aM.iJ (f:aM D a h1) (x:fp A (h1.lay bs w) h2) (hA:A∈D∨a.size≤A):aM D a h2 :=
 (f.trans (aM.lay h1 bs w []) (fun _ h=>nomatch h)).trans (x.bX (D:=[A]) (by simp)) (fun B hB=>by rw [List.mem_singleton.1 hB];exact hA)
theorem aM.mono (f:aM D a b) (hs:∀ B∈D,B∈D'):aM D' a b:=⟨f.size,fun B hB hn=>f.get B hB (fun h=>hn (hs B h))⟩
theorem Holds.bX (q:Holds a B k) (f:aM D a b) (hB:B ∉ D):Holds b B k:=⟨Nat.lt_of_lt_of_le q.lt f.size,(f.get B q.lt hB).trans q.get⟩
theorem aM.all (f:aM [] a b):cn a b:=⟨f.size,fun B hB _=>f.get B hB (by simp)⟩
theorem Holds.dq (q:Holds a B k) (f:aM [] a b):Holds b B k:=⟨Nat.lt_of_lt_of_le q.lt f.size,(f.get B q.lt (by simp)).trans q.get⟩
def aI:List Nat→Heap→Heap
 | [],h=>h
 |A::D,h=>kill A (aI D h)
theorem iG:∀ (D:List Nat) (h:Heap),(aI D h).size=h.size
 | [],_=>rfl
 |A::D,h=>by unfold aI;rw [Ry,iG D h]
theorem rn:∀ (D:List Nat) (h:Heap),cn (aI D h) h
 | [],h=>cn.refl h
 |A::D,h=>(zrC A _).trans (rn D h)
theorem oz:∀ {D:List Nat} {h:Heap} {B:Nat},B ∉ D→(aI D h).get B=h.get B
 | [],_,_,_=>rfl
 |A::D,h,B,hn=>by
  unfold aI
  rw [Xp (fun e=>hn (by rw [e];exact List.mem_cons_self)),oz (fun hh=>hn (List.mem_cons_of_mem _ hh))]
theorem yT:∀ {D:List Nat} {h:Heap} {B:Nat},B∈D→B < h.size→(aI D h).get B=some .dead
 |A::D,h,B,hm,hB=>by
  unfold aI
  by_cases he:B=A
  ·subst he;exact zn9 (by rw [iG];exact hB)
  ·rw [Xp he]
   exact yT ((List.mem_cons.1 hm).resolve_left he) hB
theorem aM.inc (f:aM D a b) (hD:∀ B∈D',B∈D∨a.size≤B):cn (aI D a) (aI D' b):=by
 refine ⟨by rw [iG,iG];exact f.size,fun B hB hd=>?_⟩
 rw [iG] at hB
 have hn:B ∉ D:=fun hh=>hd (yT hh hB)
 rw [oz hn,oz (fun hh=>(hD B hh).elim hn (fun e=>by omega))]
 exact f.get B hB hn
theorem zn3 (z:cn a b) (hD:∀ B∈D,a.size≤B):cn a (aI D b):=⟨by rw [iG];exact z.size,fun B hB hd=>by rw [oz (fun hh=>by have:=hD B hh;omega)];exact z.get B hB hd⟩
end
theorem Ow.aI {α:Type} {r:aJ α} {h0 h:Heap} {e:TypeId} {A:Nat} {v:Value} {l:List α} {D:List Nat} (f:Ow r h0 h e A v l) (qt:∀ h h' cs x,r.R h cs x→r.R h' cs x) (hk:0 < r.k) (hD:∀ B∈D,B < h0.size):Sl r (aI D h) v l:=by
 have fE:∀ {B},h0.size≤B→B ∉ D:=fun hB hh=>by have:=hD _ hh;omega
 rcases f with ⟨_,rfl,rfl|⟨B,o,rfl,g0,g2,row,u,ro,g3⟩⟩|⟨row,e1,e2,e3,e4,e5,e6,e7,e8⟩
 ·exact .nil
 ·exact .inr ⟨B,o,0,row,u,ro,rfl,Nat.zero_le _,.inl ⟨by unfold G;omega,Nat.le_refl _⟩,by rw [iG];exact g2,by rw [oz (fE g0)];exact g3,fun i x hx=>by simp at hx⟩
 ·obtain ⟨c1,c2,c3⟩:=CL (k:=r.k) (q:=l.length) hk (by unfold G;omega)
  refine .inr ⟨A,0,_,row,e,false,e1,by unfold maxLen;omega,.inr ⟨by omega,c3,by omega⟩,by rw [iG];exact e4,by rw [oz (fE e3)];exact e5,fun i x hx=>?_⟩
  obtain ⟨cs,g1,g2⟩:=e8 i x hx
  exact ⟨cs,by simpa using g1,qt _ _ _ _ g2⟩
theorem Ow.turn {α:Type} {r:aJ α} {h0 h h':Heap} {e:TypeId} {A C:Nat} {v:Value} {l:List α} {row:List Value} {u:TypeId} {ro:Bool} (qt:∀ h h' cs x,r.R h cs x→r.R h' cs x) (f:Ow r h0 h e A v l) (c:fp C h h') (hC:C≠A) (q:Holds h' C (.row row u ro)):Ow r h0 h' e A v l:=by
 rcases f with ⟨e1,e2,e3⟩|⟨row,e1,e2,e3,e4,e5,e6,e7,e8⟩
 ·refine .inl ⟨e1,e2,?_⟩
  rcases e3 with e3|⟨B,o,g1,g0,g2,pq,u2,ro2,g3⟩
  ·exact .inl e3
  ·refine .inr ⟨B,o,g1,g0,Nat.lt_of_lt_of_le g2 c.size,?_⟩
   by_cases hB:B=C
   ·subst hB;exact ⟨_,_,_,q.get⟩
   ·exact ⟨pq,u2,ro2,by rw [c.get B g2 hB];exact g3⟩
 ·refine .inr ⟨row,e1,e2,e3,Nat.lt_of_lt_of_le e4 c.size,by rw [c.get A e4 (Ne.symm hC)];exact e5,e6,e7,fun i x hx=>?_⟩
  obtain ⟨cs,g1,g2⟩:=e8 i x hx
  exact ⟨cs,g1,qt _ _ _ _ g2⟩
/-! ### Rows of a fixed kind, turned in place -/
def cJ {α:Type} (k:Nat) (cell:α→List Value) (h:Heap) (u:TypeId) (A:Nat) (v:Value) (l:List α):Prop :=
 (v=.slice none 0 0∧l=[])∨∃ (q:Nat) (row:List Value),v=.slice (some ⟨A,0,none⟩) l.length (G*k+q)∧Holds h A (.row row u false)∧row.length=q*k∧l.length≤q∧q≤1000000000∧∀ (i:Nat) (x:α),l[i]? = some x→cut row (i*k) k=some (cell x)
section
variable {α:Type} {k:Nat} {cell:α→List Value} {h h1 h2:Heap} {u:TypeId} {A:Nat} {v:Value} {l:List α} {T:bK} {t e:TypeId} {K:Value→Heap→Prop} {bs:List bh} {w i:Nat} {x y:α} {kd:IntKind}
theorem cJ.nil:cJ k cell h u A (.slice none 0 0) []:=.inl ⟨rfl,rfl⟩
theorem cJ.hold (f:cJ k cell h u A v l) (hO:∀ b,Holds h A b→Holds h1 A b):cJ k cell h1 u A v l:=by
 rcases f with f|⟨q,row,e1,e2,e3⟩
 ·exact .inl f
 ·exact .inr ⟨q,row,e1,hO _ e2,e3⟩
theorem cJ.over (f:cJ k cell h1 u A v l) (x:Ext (h1.lay bs w) h2):cJ k cell h2 u A v l:=f.hold fun b q=>q.over x
theorem cJ.lay (f:cJ k cell h1 u A v l) (bs:List bh) (w:Nat):cJ k cell (h1.lay bs w) u A v l:=f.hold fun b q=>q.on bs w
theorem cJ.bE {B:Nat} (f:cJ k cell h1 u A v l) (c:fp B (h1.lay bs w) h2) (aP:A≠B):cJ k cell h2 u A v l:=f.hold fun b q=>q.bE c aP
theorem cJ.bX {D:List Nat} (f:cJ k cell h1 u A v l) (c:aM D h1 h2) (aP:A ∉ D):cJ k cell h2 u A v l:=f.hold fun b q=>q.bX c aP
theorem cJ.bc (f:cJ k cell h u A v l) (hd:T.desc t=some (.slice e)) (h2:Heap):Am.bc T t v h2=some (.int .i64 l.length):=by
 rcases f with ⟨rfl,rfl⟩|⟨q,row,rfl,_⟩
 ·simp [Am.bc,hd]
 ·simp [Am.bc,hd]
theorem cJ.shape (f:cJ k cell h u A v l):∃ a n c,v=.slice a n c:=by
 rcases f with ⟨rfl,rfl⟩|⟨q,row,rfl,_⟩
 ·exact ⟨_,_,_,rfl⟩
 ·exact ⟨_,_,_,rfl⟩
theorem cJ.mX (f:cJ k cell h u A v l):l.length≤1000000000:=by
 rcases f with ⟨_,rfl⟩|⟨q,row,_,_,_,h1,h2,_⟩
 ·exact Nat.zero_le _
 ·omega
theorem cJ.ix (f:cJ k cell h u A v l) (hd:T.desc t=some (.slice e)) (hs:bJ T e=some k) (hi:i < l.length):fW T t v (.int kd (i:Nat))=some (.pointer (some ⟨A,i*k,none⟩)):=by
 rcases f with ⟨_,rfl⟩|⟨q,row,rfl,e2,e3,e4,e5,e6⟩
 ·simp at hi
 ·unfold fW
  simp only [hd]
  rw [if_pos ⟨by omega,by omega⟩,hs]
  simp
theorem cJ.row (f:cJ k cell h u A v l) (hx:l[i]? = some x):∃ row,Holds h A (.row row u false)∧cut row (i*k) k=some (cell x):=by
 rcases f with ⟨_,rfl⟩|⟨q,row,rfl,e2,e3,e4,e5,e6⟩
 ·simp at hx
 ·exact ⟨row,e2,e6 i x hx⟩
theorem cJ.lt (f:cJ k cell h u A v l) (aP:l≠[]):A < h.size:=by
 rcases f with ⟨_,rfl⟩|⟨q,row,rfl,e2,_⟩
 ·exact absurd rfl aP
 ·exact e2.lt
theorem TJ {cs vs:List Value} {o:Nat} (hb:o+vs.length≤cs.length) (j:Nat):(az cs o vs)[j]? = if j < o then cs[j]? else if j < o+vs.length then vs[j - o]? else cs[j]? := by
 unfold az
 rw [List.append_assoc,List.getElem?_append,List.length_take,Nat.min_eq_left (by omega)]
 by_cases h1:j < o
 ·rw [if_pos h1,if_pos h1,List.getElem?_take,if_pos h1]
 ·rw [if_neg h1,if_neg h1,List.getElem?_append]
  by_cases h2:j < o+vs.length
  ·rw [if_pos (by omega),if_pos h2]
  ·rw [if_neg (by omega),if_neg h2,List.getElem?_drop]
   congr 1
   omega
theorem zhr {cs vs:List Value} {o:Nat} (hb:o+vs.length≤cs.length):(az cs o vs).length=cs.length:=by
 unfold az;rw [List.length_append,List.length_append,List.length_take,List.length_drop];omega
theorem zi7 {row vs cs:List Value} {o n off:Nat} (hc:cut row o n=some cs) (hb:off+vs.length≤n):cut (az row (o+off) vs) o n=some (az cs off vs):=by
 unfold cut at hc ⊢
 split at hc
 ·rename_i hle
  simp only [Option.some.injEq] at hc
  have ky:cs.length=n:=by rw [← hc,List.length_take,List.length_drop];omega
  rw [if_pos (by rw [zhr (by omega)];exact hle)]
  congr 1
  apply List.ext_getElem?
  intro j
  rw [List.getElem?_take,List.getElem?_drop,TJ (by omega),TJ (by omega),← hc,List.getElem?_take,List.getElem?_drop]
  by_cases hj:j < n
  ·rw [if_pos hj,if_pos hj]
   by_cases h1:j < off
   ·rw [if_pos (by omega),if_pos h1]
   ·rw [if_neg (by omega),if_neg h1]
    by_cases h2:j < off+vs.length
    ·rw [if_pos (by omega),if_pos h2]
     congr 1
     omega
    ·rw [if_neg (by omega),if_neg h2]
  ·rw [if_neg hj,if_neg hj,if_neg (by omega),if_neg (by omega)]
 ·cases hc
theorem O0 {row vs cs:List Value} {o o2 n:Nat} (hc:cut row o n=some cs) (hb:o2+vs.length≤row.length) (hd:o+n≤o2∨o2+vs.length≤o):cut (az row o2 vs) o n=some cs:=by
 unfold cut at hc ⊢
 split at hc
 ·rename_i hle
  simp only [Option.some.injEq] at hc
  rw [if_pos (by rw [zhr hb];exact hle),← hc]
  congr 1
  apply List.ext_getElem?
  intro j
  rw [List.getElem?_take,List.getElem?_take,List.getElem?_drop,List.getElem?_drop,TJ hb]
  by_cases hj:j < n
  ·rw [if_pos hj,if_pos hj]
   rcases hd with hd|hd
   ·rw [if_pos (by omega)]
   ·rw [if_neg (by omega),if_neg (by omega)]
  ·rw [if_neg hj,if_neg hj]
 ·cases hc
theorem cJ.store {n off:Nat} {vs:List Value} {val:Value} (kB:∀ x,(cell x).length=k) (f:cJ k cell h1 u A v l) (hx:l[i]? = some x) (hs:bJ T t=some n) (rT:off+n≤k) (hv:val.cells.toList=vs) (hl:vs.length=n) (bH:vs.all one=true) (hy:az (cell x) off vs=cell y)
 (hK:∀ h',cJ k cell h' u A v (l.set i y)→fp A (h1.lay bs w) h'→K undef h'):iw (ic T t (.pointer (some ⟨A,i*k+off,none⟩)) val (h1.lay bs w)) K:=by
 have hi:i < l.length:=(List.getElem?_eq_some_iff.1 hx).1
 rcases f with ⟨_,rfl⟩|⟨q,row,rfl,e2,e3,e4,e5,e6⟩
 ·simp at hi
 have hb:i*k+off+n≤row.length:=by
  rw [e3]
  calc i*k+off+n≤i*k+k:=by omega
   _=(i+1)*k:=by rw [Nat.succ_mul]
   _≤q*k:=Nat.mul_le_mul_right _ (by omega)
 have hg:(h1.lay bs w).get A=some (.row row u false):=e2.lay bs w
 have hA:A < (h1.lay bs w).size:=(e2.on bs w).lt
 have dz:val.cells.size=n:=by rw [← hl,← hv];simp
 have he:ic T t (.pointer (some ⟨A,i*k+off,none⟩)) val (h1.lay bs w)=some ((h1.lay bs w).set A (.row (az row (i*k+off) vs) u false)):=by
  unfold ic
  simp only [hs,Option.bind_some]
  rw [if_pos dz,hv]
  unfold kj
  rw [hg]
  simp only
  rw [if_pos (by simp only [Bool.and_eq_true,decide_eq_true_eq];exact ⟨by omega,bH⟩)]
 rw [he]
 refine hK _ (.inr ⟨q,az row (i*k+off) vs,by rw [List.length_set],Em hA,?_,by rw [List.length_set];exact e4,e5,fun j z hz=>?_⟩) (xV hA)
 ·unfold az;rw [List.length_append,List.length_append,List.length_take,List.length_drop];omega
 ·rw [List.getElem?_set] at hz
  by_cases di:i=j
  ·rw [if_pos di,if_pos hi] at hz
   cases hz
   rw [← di,← hy]
   exact zi7 (e6 i x hx) (by omega)
  ·rw [if_neg di] at hz
   refine O0 (e6 j z hz) (by omega) ?_
   rcases Nat.lt_or_gt_of_ne di with h|h
   ·right
    have:(i+1)*k≤j*k:=Nat.mul_le_mul_right _ (by omega)
    rw [Nat.succ_mul] at this
    omega
   ·left
    have:(j+1)*k≤i*k:=Nat.mul_le_mul_right _ (by omega)
    rw [Nat.succ_mul] at this
    omega
theorem cJ.pw {n:Nat} {vs:List Value} {val:Value} (kB:∀ x,(cell x).length=k) (f:cJ k cell h1 u A v l) (hx:l[i]? = some x) (hs:bJ T t=some n) (rT:n≤k) (hv:val.cells.toList=vs) (hl:vs.length=n) (bH:vs.all one=true) (hy:az (cell x) 0 vs=cell y)
 (hK:∀ h',cJ k cell h' u A v (l.set i y)→fp A (h1.lay bs w) h'→K undef h'):iw (ic T t (.pointer (some ⟨A,i*k,none⟩)) val (h1.lay bs w)) K:=cJ.store (off:=0) kB f hx hs (by omega) hv hl bH hy hK
theorem cJ.mw {x:Value} {y:α} (f:cJ 1 cell h1 u A v l) (hx:l[i]? = some y) (hc:cell y=[x]) (bs:List bh) (w:Nat):kW ((h1.lay bs w).get A) (i*1)=some x:=by
 obtain ⟨row,q,c⟩:=f.row hx
 rw [hc] at c
 have hg:=q.lay bs w
 rw [hg]
 unfold cut at c
 split at c
 ·rename_i hle
  simp only [Option.some.injEq] at c
  show row[i*1]? = some x
  have:=congrArg (fun l=>l[0]?) c
  simp only [List.getElem?_take,List.getElem?_drop] at this
  simpa using this
 ·cases c
theorem TS {q:Nat} (hk:0 < k) (hq:q≤1000000000):(G*k+q) % G=q∧(G*k+q) / G=k∧G≤G*k+q:=by
 have hG:1000000000 < G:=by unfold G;omega
 refine ⟨?_,?_,?_⟩
 ·rw [Nat.mul_add_mod,Nat.mod_eq_of_lt (by omega)]
 ·rw [Nat.mul_add_div (by omega),Nat.div_eq_of_lt (by omega),Nat.add_zero]
 ·have:G*1≤G*k:=Nat.mul_le_mul_left _ hk
  omega
theorem cJ.app {bytes j:Nat} {z:List Value} {u2:TypeId} {ro:Bool} {c:Nat} (kB:∀ x,(cell x).length=k) (bf:(cell x).all one=true) (hk:0 < k) (hd:T.desc t=some (.slice u)) (hi:T.info u=some (k,bytes,z)) (f:cJ k cell h1 u A v l) (hg:bs[j]? = some (.row (cell x) u2 ro)) (hl:l.length < 900000000) (hb:(l.length+1)*bytes≤140737488355328)
 (hK:∀ v' h' A',cJ k cell h' u A' v' (l++[x])→(A'=A∧A < h1.size∨A'=(h1.lay bs w).size)→(v=.slice none 0 0→Ext (h1.lay bs w) h')→(A < h1.size→fp A (h1.lay bs w) h')→K v' h') :
 cq (hZ T t v (.slice (some ⟨h1.size+j,0,none⟩) 1 c) (h1.lay bs w)) K:=by
 have tQ:(h1.lay bs w).get (h1.size+j)=some (.row (cell x) u2 ro):=by rw [iR];exact hg
 have Ag:j < bs.length:=(List.getElem?_eq_some_iff.1 hg).1
 have hs:fO (.slice (some ⟨h1.size+j,0,none⟩) 1 c) k (h1.lay bs w)=some (1,cell x):=by
  unfold fO nc
  simp only [Nat.one_mul]
  rw [if_neg (by omega)]
  unfold gQ
  rw [tQ]
  simp only
  unfold cut
  rw [if_pos (by rw [kB];omega),List.drop_zero,List.take_of_length_le (by rw [kB];exact Nat.le_refl _)]
  rfl
 have jx:∀ (h2:Heap) (row:List Value),row.length=(l.length+1)*k→(∀ (i:Nat) (y:α),(l++[x])[i]? = some y→cut row (i*k) k=some (cell y)) →
  cJ k cell (h2.push (.row row u false)) u h2.size (.slice (some ⟨h2.size,0,none⟩) (l.length+1) (G*k+(l.length+1))) (l++[x]):=fun h2 row e1 e2 =>
  .inr ⟨l.length+1,row,by rw [List.length_append];rfl,⟨by rw [Heap.size_push];omega,by rw [Heap.bu,if_pos rfl]⟩,e1,by rw [List.length_append];exact Nat.le_refl _,by omega,e2⟩
 rcases f with ⟨rfl,rfl⟩|⟨q,row,rfl,e2,e3,e4,e5,e6⟩
 ·have key:=zuo hd hi hk hs (by omega) bf (by simpa using hb) (by omega)
  rw [key]
  refine hK _ _ _ (jx _ (cell x) (by rw [kB];simp) (fun i y hy=>?_)) (.inr rfl) (fun _=>?_) (fun hA=>?_)
  ·cases i with
   |zero =>
    simp at hy
    subst hy
    unfold cut
    rw [if_pos (by rw [kB];omega),Nat.zero_mul,List.drop_zero,List.take_of_length_le (by rw [kB];exact Nat.le_refl _)]
   |succ i=>simp at hy
  ·exact Ext.push _ _
  ·exact (Ext.push _ _).iJ
 ·obtain ⟨c1,c2,c3⟩:=TS (k:=k) (q:=q) hk e5
  have pL:(h1.lay bs w).get A=some (.row row u false):=e2.lay bs w
  have hA:A < (h1.lay bs w).size:=(e2.on bs w).lt
  unfold hZ
  simp only [hd,hi,hs,Option.bind_some]
  rw [if_neg (by omega),if_neg (by
   simp only [Bool.or_eq_true,decide_eq_true_eq,Bool.not_eq_true',not_or]
   refine ⟨⟨⟨by omega,by omega⟩,by omega⟩,by rw [bf];decide⟩),c1]
  by_cases hq:l.length+1≤q
  ·rw [if_pos hq,if_pos (by simp [c2])]
   have pI:0+l.length*k+(cell x).length≤row.length:=by
    rw [e3,kB]
    have:(l.length+1)*k≤q*k:=Nat.mul_le_mul_right _ hq
    rw [Nat.succ_mul] at this
    omega
   have hw:kj A (0+l.length*k) (cell x) (h1.lay bs w)=some ((h1.lay bs w).set A (.row (az row (0+l.length*k) (cell x)) u false)):=by
    unfold kj
    rw [pL]
    simp only
    rw [if_pos (by simp only [Bool.and_eq_true,decide_eq_true_eq];exact ⟨pI,bf⟩)]
   rw [hw]
   refine hK _ _ A (.inr ⟨q,az row (0+l.length*k) (cell x),by rw [List.length_append];rfl,Em hA,?_,by rw [List.length_append];exact hq,e5,fun j z hz=>?_⟩) (.inl ⟨rfl,e2.lt⟩) (fun h=>by cases h) (fun _=>xV hA)
   ·unfold az;rw [List.length_append,List.length_append,List.length_take,List.length_drop];omega
   ·rw [Nat.zero_add] at pI ⊢
    rw [List.getElem?_append] at hz
    by_cases hj:j < l.length
    ·rw [if_pos hj] at hz
     refine O0 (e6 j z hz) pI (.inl ?_)
     have:(j+1)*k≤l.length*k:=Nat.mul_le_mul_right _ hj
     rw [Nat.succ_mul] at this
     exact this
    ·rw [if_neg hj] at hz
     have Ag:j=l.length:=by
      have:=(List.getElem?_eq_some_iff.1 hz).1
      simp only [List.length_singleton] at this
      omega
     subst Ag
     rw [Nat.sub_self,List.getElem?_cons_zero] at hz
     cases hz
     unfold cut az
     rw [if_pos (by rw [List.length_append,List.length_append,List.length_take,List.length_drop,kB];rw [kB] at pI;omega),List.append_assoc,List.drop_append,List.length_take,List.drop_of_length_le (by rw [List.length_take];omega),List.nil_append]
     rw [show l.length*k - min (l.length*k) row.length=0 by omega,List.drop_zero,List.take_append_of_le_length (by rw [kB];exact Nat.le_refl _),List.take_of_length_le (by rw [kB];exact Nat.le_refl _)]
  ·rw [if_neg hq]
   have tY:l.length=q:=by omega
   have hc:nc (.slice (some ⟨A,0,none⟩) l.length (G*k+q)) k (h1.lay bs w)=some row:=by
    unfold nc
    simp only
    by_cases h0:l.length*k=0
    ·rw [if_pos h0]
     congr 1
     rw [tY,← e3] at h0
     exact (List.length_eq_zero_iff.1 h0).symm
    ·rw [if_neg h0]
     unfold gQ
     rw [pL]
     simp only
     unfold cut
     rw [if_pos (by rw [e3,tY];omega),List.drop_zero,List.take_of_length_le (by rw [e3,tY];exact Nat.le_refl _)]
   rw [hc]
   simp only [Option.bind_some]
   rw [if_neg (by omega)]
   simp only [pL]
   rw [if_pos (by simp [c2])]
   have jA:((h1.lay bs w).set A .dead).size=(h1.lay bs w).size:=Heap.size_set _ _ _
   have hn:=jx ((h1.lay bs w).set A .dead) (row++cell x) (by rw [List.length_append,kB,e3,tY,Nat.succ_mul]) (fun i y hy=>by
    rw [List.getElem?_append] at hy
    by_cases hj:i < l.length
    ·rw [if_pos hj] at hy
     exact UK (e6 i y hy)
    ·rw [if_neg hj] at hy
     have Ag:i=l.length:=by
      have:=(List.getElem?_eq_some_iff.1 hy).1
      simp only [List.length_singleton] at this
      omega
     subst Ag
     rw [Nat.sub_self,List.getElem?_cons_zero] at hy
     cases hy
     have:=Ug (a:=row) (b:=cell x) (o:=0) (n:=k) (c:=cell x) (by unfold cut;rw [if_pos (by rw [kB];omega),List.drop_zero,List.take_of_length_le (by rw [kB];exact Nat.le_refl _)])
     rw [Nat.add_zero,e3,← tY] at this
     exact this)
   rw [jA] at hn
   exact hK _ _ _ hn (.inr rfl) (fun h=>by cases h) (fun _=>((xV hA).trans (Ext.push _ _).iJ))
theorem cJ.pop {n:Nat} (hk:0 < k) (hd:T.desc t=some (.slice u)) (hs:bJ T u=some k) (f:cJ k cell h u A v l) (hn:n≤l.length) (aP:l≠[]):∃ v',ki T t v none (some (.int kd (n:Nat))) none=some v'∧cJ k cell h u A v' (l.take n):=by
 rcases f with ⟨_,rfl⟩|⟨q,row,rfl,e2,e3,e4,e5,e6⟩
 ·exact absurd rfl aP
 ·obtain ⟨c1,c2,c3⟩:=TS (k:=k) (q:=q) hk e5
  refine ⟨.slice (some ⟨A,0,none⟩) n (G*k+q),?_,.inr ⟨q,row,by rw [List.length_take,Nat.min_eq_left hn],e2,e3,by rw [List.length_take];omega,e5,fun i x hx=>e6 i x ?_⟩⟩
  ·unfold ki rq yf
   simp only [hd,hs,Option.bind_some]
   rw [if_neg (by omega)]
   simp only [c2,if_true,c1]
   rw [if_pos (by omega)]
   simp
  ·rw [List.getElem?_take] at hx
   split at hx
   ·exact hx
   ·cases hx
end
end Go.Am
