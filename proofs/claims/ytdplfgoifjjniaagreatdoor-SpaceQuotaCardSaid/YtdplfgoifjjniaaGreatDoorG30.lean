/- Ranges over functions that turn three blocks: a map's, a box, the elements behind it. No condition. -/
import Derived.Test.YtdplfgoifjjniaaGreatDoorG28
import Derived.Test.YtdplfgoifjjniaaGreatDoorG29
import Derived.Test.YtdplfgoifjjniaaGreatDoorGIfx
set_option linter.unusedSimpArgs false
set_option linter.unusedVariables false
namespace Go.Am
def dk (M X A:Nat) (h:Heap):Heap:=kill A (kill X (kill M h))
theorem zfY (M X A:Nat) (h:Heap):(dk M X A h).size=h.size:=by unfold dk;rw [zbj,zbj,zbj]
theorem zAc (M X A:Nat) (h:Heap):Inc (dk M X A h) h:=(zfv _ _).trans ((zfv _ _).trans (zfv _ _))
theorem zgk {M X A C:Nat} {h:Heap} (h1:C≠A) (h2:C≠X) (h3:C≠M):(dk M X A h).get C=h.get C:=by
 unfold dk
 rw [zcf h1,zcf h2,zcf h3]
theorem znL {M X A C:Nat} {h:Heap} (hC:C < h.size) (hd:C=A∨C=X∨C=M):(dk M X A h).get C=some .dead:=by
 unfold dk
 by_cases h1:C=A
 ·subst h1
  exact zdz (by rw [zbj,zbj];exact hC)
 rw [zcf h1]
 by_cases h2:C=X
 ·subst h2
  exact zdz (by rw [zbj];exact hC)
 rw [zcf h2]
 have h3:C=M:=by rcases hd with h|h|h <;> first|exact absurd h h1|exact absurd h h2|exact h
 subst h3
 exact zdz hC
theorem zuZ {M X A C:Nat} {h:Heap} (hC:C < h.size) (hd:(dk M X A h).get C≠some .dead):C≠A∧C≠X∧C≠M :=
 ⟨fun e=>hd (znL hC (.inl e)),fun e=>hd (znL hC (.inr (.inl e))),fun e=>hd (znL hC (.inr (.inr e)))⟩
structure Kn (M X:Nat) (B:Heap) (A:Nat) (h:Heap):Prop where
 m:M < h.size
 x:X < h.size
 lt:A < h.size
 inc:Inc B (dk M X A h)
section
variable {M X A A' C:Nat} {B h h1 h2:Heap} {bs:List Blk} {w:Nat} {b:Blk}
theorem zAw {a d:Heap} (i:Inc a d):Inc (dk M X A a) (dk M X A d):=zhV (zhV (zhV i))
theorem Kn.all (k:Kn M X B A h1):Inc B h1:=k.inc.trans (zAc _ _ _ _)
theorem Kn.mono (k:Kn M X B A h1) (i:Inc h1 h2):Kn M X B A h2:=⟨Nat.lt_of_lt_of_le k.m i.size,Nat.lt_of_lt_of_le k.x i.size,Nat.lt_of_lt_of_le k.lt i.size,k.inc.trans (zAw i)⟩
theorem Kn.over (k:Kn M X B A h1) (x:Ext (h1.lay bs w) h2):Kn M X B A h2:=k.mono ((Inc.lay _ _ _).trans x.inc)
theorem Kn.lay (k:Kn M X B A h1) (bs:List Blk) (w:Nat):Kn M X B A (h1.lay bs w):=k.mono (Inc.lay _ _ _)
theorem Kn.trans (k:Kn M X B A h1) (k2:Kn M X (dk M X A h1) A' h2):Kn M X B A' h2:=⟨k2.m,k2.x,k2.lt,k.inc.trans k2.inc⟩
theorem Kn.holds (k:Kn M X B A h1) (q:Holds B C b) (hb:b≠.dead):Holds h1 C b∧C≠A∧C≠X∧C≠M:=by
 have hC:C < h1.size:=Nat.lt_of_lt_of_le q.lt k.all.size
 have hg:=k.inc.get C q.lt (by rw [q.get];exact fun e=>hb (Option.some.inj e))
 rw [q.get] at hg
 have hne:=zuZ hC (by rw [hg];exact fun e=>hb (Option.some.inj e))
 exact ⟨⟨hC,by rw [← hg,zgk hne.1 hne.2.1 hne.2.2]⟩,hne⟩
theorem Holds.dk (q:Holds h1 C b) (hA:C≠A) (hX:C≠X) (hM:C≠M):Holds (dk M X A h1) C b:=⟨by rw [zfY];exact q.lt,by rw [zgk hA hX hM];exact q.get⟩
theorem Kn.keep (k:Kn M X (Go.Am.dk M X A h1) A' h2) (q:Holds h1 C b) (hA:C≠A) (hX:C≠X) (hM:C≠M) (hb:b≠.dead):Holds h2 C b∧C≠A' :=
 have:=k.holds (q.dk hA hX hM) hb
 ⟨this.1,this.2.1⟩
theorem Kn.step (k:Kn M X B A h1) (c:Chg A (h1.lay bs w) h2) (hA:A'=A∨h1.size≤A') (hl:A' < h2.size):Kn M X B A' h2:=by
 have hs:h1.size≤(h1.lay bs w).size:=by rw [zad];omega
 have hs2:=c.size
 refine ⟨Nat.lt_of_lt_of_le k.m (by omega),Nat.lt_of_lt_of_le k.x (by omega),hl,⟨by rw [zfY];exact Nat.le_trans k.all.size (by omega),fun C hC hd=>?_⟩⟩
 have h3:=k.inc.get C hC hd
 have hC1:C < h1.size:=Nat.lt_of_lt_of_le hC k.all.size
 have hne:=zuZ hC1 (by rw [h3];exact hd)
 rw [zgk hne.1 hne.2.1 hne.2.2] at h3
 rw [zgk (by rcases hA with e|e <;> omega) hne.2.1 hne.2.2,c.get C (by omega) hne.1,za9 _ _ _ hC1]
 exact h3
theorem Kn.round {L:Nat} {h3:Heap} (c:Chg L h h1) (k:Kn M X (Go.Am.dk M X A h1) A' h2) (c2:Chg L h2 h3) (hb:h3.get L=h.get L) (hL:L≠A'∧L≠X∧L≠M):Kn M X (Go.Am.dk M X A h) A' h3:=by
 have hs:=c.size
 have hs2:=c2.size
 have hks:=k.all.size
 rw [zfY] at hks
 refine ⟨Nat.lt_of_lt_of_le k.m hs2,Nat.lt_of_lt_of_le k.x hs2,Nat.lt_of_lt_of_le k.lt hs2,⟨by rw [zfY,zfY];omega,fun D hD hd=>?_⟩⟩
 rw [zfY] at hD
 have hne:=zuZ hD hd
 rw [zgk hne.1 hne.2.1 hne.2.2] at hd ⊢
 by_cases hDL:D=L
 ·subst hDL
  rw [zgk hL.1 hL.2.1 hL.2.2,hb]
 ·have g1:=c.get D hD hDL
  have g2:=k.inc.get D (by rw [zfY];omega) (by rw [zgk hne.1 hne.2.1 hne.2.2,g1];exact hd)
  rw [zgk hne.1 hne.2.1 hne.2.2,g1] at g2
  have hne2:=zuZ (h:=h2) (M:=M) (X:=X) (A:=A') (C:=D) (by omega) (by rw [g2];exact hd)
  rw [zgk hne2.1 hne2.2.1 hne2.2.2] at g2 ⊢
  rw [c2.get D (by omega) hDL,g2]
end
theorem Ow.low {α:Type} {r:Rep α} {h0 h1 h:Heap} {e A:Nat} {v:Value} {l:List α} (hs:h0.size≤h1.size) (f:Ow r h1 h e A v l):Ow r h0 h e A v l:=by
 rcases f with ⟨e1,e2,e3⟩|⟨row,e1,e2,e3,e4⟩
 ·refine .inl ⟨by omega,e2,?_⟩
  rcases e3 with e3|⟨B,o,g1,g2,g3⟩
  ·exact .inl e3
  ·exact .inr ⟨B,o,g1,by omega,g3⟩
 ·exact .inr ⟨row,e1,e2,by omega,e4⟩
def OwE {α:Type} (r:Rep α) (h0 h:Heap) (e:TypeId) (v:Value) (l:List α):Prop:=∃ A,Ow r h0 h e A v l
section
variable {α:Type} {r:Rep α} {h0 h0' h h' h1 h2:Heap} {e:TypeId} {v:Value} {l:List α}
theorem OwE.mono (f:OwE r h0 h e v l) (i:Inc h h'):OwE r h0 h' e v l:=f.elim fun A o=>⟨A,o.mono i⟩
theorem OwE.over {bs:List Blk} {w:Nat} (f:OwE r h0 h1 e v l) (x:Ext (h1.lay bs w) h2):OwE r h0 h2 e v l:=f.elim fun A o=>⟨A,o.over x⟩
theorem OwE.lay (f:OwE r h0 h e v l) (bs:List Blk) (w:Nat):OwE r h0 (h.lay bs w) e v l:=f.mono (Inc.lay _ _ _)
theorem OwE.low (hs:h0'.size≤h0.size) (f:OwE r h0 h e v l):OwE r h0' h e v l:=f.elim fun A o=>⟨A,o.low hs⟩
theorem OwE.sl (f:OwE r h0 h e v l) (hk:0 < r.k):Sl r h v l:=f.elim fun A o=>o.sl hk
theorem OwE.dk {M X A:Nat} (f:OwE r h0 h e v l) (hk:0 < r.k) (hflat:∀ h h' cs x,r.R h cs x→r.R h' cs x) (hM:M < h0.size) (hX:X < h0.size) (hA:A < h0.size):Sl r (dk M X A h) v l :=
 f.elim fun B o=>(((o.kill hflat hM).kill hflat hX).kill hflat hA).sl hk
end
section
variable {P:Program} {T:Tab} {ov:Ov} {M X:Nat} {h0:Heap} {J:List (List BindD)→Nat→Heap→Prop} {fy:Value}
structure Sm (L:Nat) (h h':Heap):Prop where
 size:h.size≤h'.size
 get:∀ B,B < h.size→B≠L→h'.get B=h.get B
theorem Chg.sm {L:Nat} {h h':Heap} (c:Chg L h h'):Sm L h h':=⟨c.size,c.get⟩
theorem Ext.sm {h h':Heap} (x:Ext h h') (L:Nat):Sm L h h':=⟨x.size,fun B hB _=>x.get B hB⟩
theorem zAV (h:Heap) (bs:List Blk) (w L:Nat):Sm L h (h.lay bs w):=⟨by rw [zad];omega,fun B hB _=>za9 h bs w hB⟩
theorem Holds.sm {L C:Nat} {h h':Heap} {b:Blk} (q:Holds h C b) (s:Sm L h h') (hne:C≠L):Holds h' C b:=⟨Nat.lt_of_lt_of_le q.lt s.size,(s.get C q.lt hne).trans q.get⟩
structure Stb (N M X:Nat) (J:List (List BindD)→Nat→Heap→Prop):Prop where
 m:M < N
 x:X < N
 lt:∀ {done A h},J done A h→M < h.size∧X < h.size∧A < h.size
 sm:∀ {done A h1 h2 L},J done A h1→Sm L h1 h2→N≤L→L≠A→J done A h2
theorem Stb.lay {N:Nat} (s:Stb N M X J) {done:List (List BindD)} {A:Nat} {h1:Heap} (j:J done A h1) (bs:List Blk) (w:Nat):J done A (h1.lay bs w):=by
 have hl:=s.lt j
 exact s.sm (L:=N+h1.size) j (zAV _ _ _ _) (by omega) (by omega)
theorem Stb.over {N:Nat} (s:Stb N M X J) {done:List (List BindD)} {A w:Nat} {h1 h2:Heap} {bs:List Blk} (j:J done A h1) (x:Ext (h1.lay bs w) h2):J done A h2:=by
 have hl:=s.lt j
 exact s.sm (L:=N+h1.size) (s.lay j bs w) (x.sm _) (by omega) (by omega)
structure JJ (N M X:Nat) (J:List (List BindD)→Nat→Heap→Prop) (done:List (List BindD)) (A:Nat) (h:Heap):Prop where
 st:Stb N M X J
 j:J done A h
theorem JJ.lay {N:Nat} {done:List (List BindD)} {A:Nat} {h1:Heap} (f:JJ N M X J done A h1) (bs:List Blk) (w:Nat):JJ N M X J done A (h1.lay bs w):=⟨f.st,f.st.lay f.j bs w⟩
theorem JJ.over {N:Nat} {done:List (List BindD)} {A w:Nat} {h1 h2:Heap} {bs:List Blk} (f:JJ N M X J done A h1) (x:Ext (h1.lay bs w) h2):JJ N M X J done A h2:=⟨f.st,f.st.over f.j x⟩
end
theorem Ow.sm {α:Type} {r:Rep α} {h0 h h':Heap} {e:TypeId} {A L:Nat} {v:Value} {l:List α} (hflat:∀ h h' cs x,r.R h cs x→r.R h' cs x) (f:Ow r h0 h e A v l) (c:Sm L h h') (hL:L≠A) (hn:l=[]→∀ B o x n c,v=.slice (some ⟨B,o,x⟩) n c→B≠L):Ow r h0 h' e A v l:=by
 rcases f with ⟨e1,e2,e3⟩|⟨row,e1,e2,e3,e4,e5,e6,e7,e8⟩
 ·refine .inl ⟨e1,e2,?_⟩
  rcases e3 with e3|⟨B,o,g1,g2,g3,row,u,ro,g4⟩
  ·exact .inl e3
  ·exact .inr ⟨B,o,g1,g2,Nat.lt_of_lt_of_le g3 c.size,row,u,ro,by rw [c.get B g3 (hn e2 _ _ _ _ _ g1)];exact g4⟩
 ·refine .inr ⟨row,e1,e2,e3,Nat.lt_of_lt_of_le e4 c.size,by rw [c.get A e4 (Ne.symm hL)];exact e5,e6,e7,fun i x hx=>?_⟩
  obtain ⟨cs,g1,g2⟩:=e8 i x hx
  exact ⟨cs,g1,hflat _ _ _ _ g2⟩
theorem MapK.sm {κ:Type} {kv:κ→Value} {h h':Heap} {A L:Nat} {met:List κ} (m:MapK kv h A met) (c:Sm L h h') (hne:A≠L):MapK kv h' A met:=by
 obtain ⟨es,cl,ks,m1,m2,m3⟩:=m
 exact ⟨es,cl,ks,m1.sm c hne,m2,m3⟩
structure RJ (hb:Heap) (N:Nat) (u1 u2:TypeId) (M X:Nat) (facts heads:List AtomD) (A:Nat) (h:Heap):Prop where
 lt:M < h.size∧X < h.size∧A < h.size
 map:∃ met,MapK AtomD.val h M met∧∀ a,a∈met↔a∈heads
 out:∃ (v:Value) (out:List AtomD),Holds h X (.row [v] u1 false)∧(∀ a,a∈out↔a∈facts∨a∈heads)∧out.length≤facts.length+heads.length∧Ow Rep.atom hb h u2 A v out∧(out≠[]→A≠X∧A≠M)∧(out=[]→A=X∧∀ B o x n c,v=.slice (some ⟨B,o,x⟩) n c→B < N)
theorem RJ.sm {hb h1 h2:Heap} {N M X A L:Nat} {u1 u2:TypeId} {facts heads:List AtomD} (f:RJ hb N u1 u2 M X facts heads A h1) (hM:M < N) (hX:X < N) (c:Sm L h1 h2) (hN:N≤L) (hL:L≠A):RJ hb N u1 u2 M X facts heads A h2:=by
 obtain ⟨⟨f1,f2,f3⟩,⟨met,m1,m2⟩,v,out,o1,o2,o3,o4,o5,o6⟩:=f
 have hs:=c.size
 exact ⟨by omega,⟨met,m1.sm c (by omega),m2⟩,v,out,o1.sm c (by omega),o2,o3,o4.sm (fun _ _ _ _ h=>h) c hL (fun e B o x n c hv=>by have:=(o6 e).2 B o x n c hv;omega),o5,o6⟩
theorem RJ.over {hb h1 h2:Heap} {N M X A w:Nat} {u1 u2:TypeId} {bs:List Blk} {facts heads:List AtomD} (f:RJ hb N u1 u2 M X facts heads A h1) (x:Ext (h1.lay bs w) h2):RJ hb N u1 u2 M X facts heads A h2:=by
 obtain ⟨⟨f1,f2,f3⟩,⟨met,m1,m2⟩,v,out,o1,o2,o3,o4,o5⟩:=f
 have hs:=x.size
 rw [zad] at hs
 exact ⟨by omega,⟨met,m1.over x,m2⟩,v,out,o1.over x,o2,o3,o4.over x,o5⟩
theorem RJ.lay {hb h1:Heap} {N M X A:Nat} {u1 u2:TypeId} {facts heads:List AtomD} (f:RJ hb N u1 u2 M X facts heads A h1) (bs:List Blk) (w:Nat):RJ hb N u1 u2 M X facts heads A (h1.lay bs w):=f.over (Ext.refl _)
end Go.Am
namespace Go.Am
structure Frs (D:List Nat) (h h':Heap):Prop where
 size:h.size≤h'.size
 get:∀ B,B < h.size→B ∉ D→h'.get B=h.get B
section
variable {D D':List Nat} {a b c h h1 h2:Heap} {A B w:Nat} {bs:List Blk} {k:Blk}
theorem Frs.refl (D:List Nat) (h:Heap):Frs D h h:=⟨Nat.le_refl _,fun _ _ _=>rfl⟩
theorem Ext.frs (x:Ext a b) (D:List Nat):Frs D a b:=⟨x.size,fun B hB _=>x.get B hB⟩
theorem Chg.frs (x:Chg A a b) (hA:A∈D):Frs D a b:=⟨x.size,fun B hB hD=>x.get B hB (fun e=>hD (e ▸ hA))⟩
theorem Frs.lay (a:Heap) (bs:List Blk) (w:Nat) (D:List Nat):Frs D a (a.lay bs w):=⟨by rw [zad];omega,fun B hB _=>za9 a bs w hB⟩
theorem Frs.trans (f:Frs D a b) (g:Frs D' b c) (hD:∀ B∈D',B∈D∨a.size≤B):Frs D a c :=
 ⟨Nat.le_trans f.size g.size,fun B hB hn=>(g.get B (Nat.lt_of_lt_of_le hB f.size) (fun hh=>(hD B hh).elim hn (fun e=>by omega))).trans (f.get B hB hn)⟩
theorem Frs.over (f:Frs D a h1) (x:Ext (h1.lay bs w) h2):Frs D a h2:=(f.trans (Frs.lay h1 bs w []) (fun _ h=>nomatch h)).trans (x.frs []) (fun _ h=>nomatch h)
theorem Frs.chg (f:Frs D a h1) (x:Chg A (h1.lay bs w) h2) (hA:A∈D∨a.size≤A):Frs D a h2 :=
 (f.trans (Frs.lay h1 bs w []) (fun _ h=>nomatch h)).trans (x.frs (D:=[A]) (by simp)) (fun B hB=>by rw [List.mem_singleton.1 hB];exact hA)
theorem Frs.mono (f:Frs D a b) (hs:∀ B∈D,B∈D'):Frs D' a b:=⟨f.size,fun B hB hn=>f.get B hB (fun h=>hn (hs B h))⟩
theorem Holds.frs (q:Holds a B k) (f:Frs D a b) (hB:B ∉ D):Holds b B k:=⟨Nat.lt_of_lt_of_le q.lt f.size,(f.get B q.lt hB).trans q.get⟩
theorem Frs.all (f:Frs [] a b):Inc a b:=⟨f.size,fun B hB _=>f.get B hB (by simp)⟩
theorem Holds.frs0 (q:Holds a B k) (f:Frs [] a b):Holds b B k:=⟨Nat.lt_of_lt_of_le q.lt f.size,(f.get B q.lt (by simp)).trans q.get⟩
def killL:List Nat→Heap→Heap
 | [],h=>h
 |A::D,h=>kill A (killL D h)
theorem zaz:∀ (D:List Nat) (h:Heap),(killL D h).size=h.size
 | [],_=>rfl
 |A::D,h=>by unfold killL;rw [zbj,zaz D h]
theorem zd4:∀ (D:List Nat) (h:Heap),Inc (killL D h) h
 | [],h=>Inc.refl h
 |A::D,h=>(zfv A _).trans (zd4 D h)
theorem zbh:∀ {D:List Nat} {h:Heap} {B:Nat},B ∉ D→(killL D h).get B=h.get B
 | [],_,_,_=>rfl
 |A::D,h,B,hn=>by
  unfold killL
  rw [zcf (fun e=>hn (by rw [e];exact List.mem_cons_self)),zbh (fun hh=>hn (List.mem_cons_of_mem _ hh))]
theorem zco:∀ {D:List Nat} {h:Heap} {B:Nat},B∈D→B < h.size→(killL D h).get B=some .dead
 |A::D,h,B,hm,hB=>by
  unfold killL
  by_cases he:B=A
  ·subst he;exact zdz (by rw [zaz];exact hB)
  ·rw [zcf he]
   exact zco ((List.mem_cons.1 hm).resolve_left he) hB
theorem Frs.inc (f:Frs D a b) (hD:∀ B∈D',B∈D∨a.size≤B):Inc (killL D a) (killL D' b):=by
 refine ⟨by rw [zaz,zaz];exact f.size,fun B hB hd=>?_⟩
 rw [zaz] at hB
 have hn:B ∉ D:=fun hh=>hd (zco hh hB)
 rw [zbh hn,zbh (fun hh=>(hD B hh).elim hn (fun e=>by omega))]
 exact f.get B hB hn
end
theorem Ow.killL {α:Type} {r:Rep α} {h0 h:Heap} {e:TypeId} {A:Nat} {v:Value} {l:List α} {D:List Nat} (f:Ow r h0 h e A v l) (hflat:∀ h h' cs x,r.R h cs x→r.R h' cs x) (hk:0 < r.k) (hD:∀ B∈D,B < h0.size):Sl r (killL D h) v l:=by
 have hout:∀ {B},h0.size≤B→B ∉ D:=fun hB hh=>by have:=hD _ hh;omega
 rcases f with ⟨_,rfl,rfl|⟨B,o,rfl,g0,g2,row,u,ro,g3⟩⟩|⟨row,e1,e2,e3,e4,e5,e6,e7,e8⟩
 ·exact .nil
 ·exact .inr ⟨B,o,0,row,u,ro,rfl,Nat.zero_le _,.inl ⟨by unfold G;omega,Nat.le_refl _⟩,by rw [zaz];exact g2,by rw [zbh (hout g0)];exact g3,fun i x hx=>by simp at hx⟩
 ·obtain ⟨c1,c2,c3⟩:=zeu (k:=r.k) (q:=l.length) hk (by unfold G;omega)
  refine .inr ⟨A,0,_,row,e,false,e1,by unfold maxLen;omega,.inr ⟨by omega,c3,by omega⟩,by rw [zaz];exact e4,by rw [zbh (hout e3)];exact e5,fun i x hx=>?_⟩
  obtain ⟨cs,g1,g2⟩:=e8 i x hx
  exact ⟨cs,by simpa using g1,hflat _ _ _ _ g2⟩
theorem Ow.turn {α:Type} {r:Rep α} {h0 h h':Heap} {e:TypeId} {A C:Nat} {v:Value} {l:List α} {row:List Value} {u:TypeId} {ro:Bool} (hflat:∀ h h' cs x,r.R h cs x→r.R h' cs x) (f:Ow r h0 h e A v l) (c:Chg C h h') (hC:C≠A) (q:Holds h' C (.row row u ro)):Ow r h0 h' e A v l:=by
 rcases f with ⟨e1,e2,e3⟩|⟨row,e1,e2,e3,e4,e5,e6,e7,e8⟩
 ·refine .inl ⟨e1,e2,?_⟩
  rcases e3 with e3|⟨B,o,g1,g0,g2,row2,u2,ro2,g3⟩
  ·exact .inl e3
  ·refine .inr ⟨B,o,g1,g0,Nat.lt_of_lt_of_le g2 c.size,?_⟩
   by_cases hB:B=C
   ·subst hB;exact ⟨_,_,_,q.get⟩
   ·exact ⟨row2,u2,ro2,by rw [c.get B g2 hB];exact g3⟩
 ·refine .inr ⟨row,e1,e2,e3,Nat.lt_of_lt_of_le e4 c.size,by rw [c.get A e4 (Ne.symm hC)];exact e5,e6,e7,fun i x hx=>?_⟩
  obtain ⟨cs,g1,g2⟩:=e8 i x hx
  exact ⟨cs,g1,hflat _ _ _ _ g2⟩
/-! ### Rows of a fixed kind, turned in place -/
def OwF {α:Type} (k:Nat) (cell:α→List Value) (h:Heap) (u:TypeId) (A:Nat) (v:Value) (l:List α):Prop :=
 (v=.slice none 0 0∧l=[])∨∃ (q:Nat) (row:List Value),v=.slice (some ⟨A,0,none⟩) l.length (G*k+q)∧Holds h A (.row row u false)∧row.length=q*k∧l.length≤q∧q≤1000000000∧∀ (i:Nat) (x:α),l[i]? = some x→cut row (i*k) k=some (cell x)
section
variable {α:Type} {k:Nat} {cell:α→List Value} {h h1 h2:Heap} {u:TypeId} {A:Nat} {v:Value} {l:List α} {T:Tab} {t e:TypeId} {K:Value→Heap→Prop} {bs:List Blk} {w i:Nat} {x y:α} {kd:IntKind}
theorem OwF.nil:OwF k cell h u A (.slice none 0 0) []:=.inl ⟨rfl,rfl⟩
theorem OwF.hold (f:OwF k cell h u A v l) (hO:∀ b,Holds h A b→Holds h1 A b):OwF k cell h1 u A v l:=by
 rcases f with f|⟨q,row,e1,e2,e3⟩
 ·exact .inl f
 ·exact .inr ⟨q,row,e1,hO _ e2,e3⟩
theorem OwF.over (f:OwF k cell h1 u A v l) (x:Ext (h1.lay bs w) h2):OwF k cell h2 u A v l:=f.hold fun b q=>q.over x
theorem OwF.lay (f:OwF k cell h1 u A v l) (bs:List Blk) (w:Nat):OwF k cell (h1.lay bs w) u A v l:=f.hold fun b q=>q.on bs w
theorem OwF.stepL {B:Nat} (f:OwF k cell h1 u A v l) (c:Chg B (h1.lay bs w) h2) (hne:A≠B):OwF k cell h2 u A v l:=f.hold fun b q=>q.stepL c hne
theorem OwF.frs {D:List Nat} (f:OwF k cell h1 u A v l) (c:Frs D h1 h2) (hne:A ∉ D):OwF k cell h2 u A v l:=f.hold fun b q=>q.frs c hne
theorem OwF.lenA (f:OwF k cell h u A v l) (hd:T.desc t=some (.slice e)) (h2:Heap):Am.lenA T t v h2=some (.int .i64 l.length):=by
 rcases f with ⟨rfl,rfl⟩|⟨q,row,rfl,_⟩
 ·simp [Am.lenA,hd]
 ·simp [Am.lenA,hd]
theorem OwF.shape (f:OwF k cell h u A v l):∃ a n c,v=.slice a n c:=by
 rcases f with ⟨rfl,rfl⟩|⟨q,row,rfl,_⟩
 ·exact ⟨_,_,_,rfl⟩
 ·exact ⟨_,_,_,rfl⟩
theorem OwF.len_le (f:OwF k cell h u A v l):l.length≤1000000000:=by
 rcases f with ⟨_,rfl⟩|⟨q,row,_,_,_,h1,h2,_⟩
 ·exact Nat.zero_le _
 ·omega
theorem OwF.ix (f:OwF k cell h u A v l) (hd:T.desc t=some (.slice e)) (hs:zau T e=some k) (hi:i < l.length):zao T t v (.int kd (i:Nat))=some (.pointer (some ⟨A,i*k,none⟩)):=by
 rcases f with ⟨_,rfl⟩|⟨q,row,rfl,e2,e3,e4,e5,e6⟩
 ·simp at hi
 ·unfold zao
  simp only [hd]
  rw [if_pos ⟨by omega,by omega⟩,hs]
  simp
theorem OwF.row (f:OwF k cell h u A v l) (hx:l[i]? = some x):∃ row,Holds h A (.row row u false)∧cut row (i*k) k=some (cell x):=by
 rcases f with ⟨_,rfl⟩|⟨q,row,rfl,e2,e3,e4,e5,e6⟩
 ·simp at hx
 ·exact ⟨row,e2,e6 i x hx⟩
theorem OwF.at (hk:∀ x,(cell x).length=k) (f:OwF k cell h u A v l) (hx:l[i]? = some x):AtP h (.pointer (some ⟨A,i*k,none⟩)) (cell x):=by
 obtain ⟨row,q,c⟩:=f.row hx
 exact ⟨A,_,row,u,false,rfl,q.lt,q.get,by rw [hk];exact c⟩
theorem OwF.lt (f:OwF k cell h u A v l) (hne:l≠[]):A < h.size:=by
 rcases f with ⟨_,rfl⟩|⟨q,row,rfl,e2,_⟩
 ·exact absurd rfl hne
 ·exact e2.lt
theorem zhf {cs vs:List Value} {o:Nat} (hb:o+vs.length≤cs.length) (j:Nat):(splice cs o vs)[j]? = if j < o then cs[j]? else if j < o+vs.length then vs[j - o]? else cs[j]? := by
 unfold splice
 rw [List.append_assoc,List.getElem?_append,List.length_take,Nat.min_eq_left (by omega)]
 by_cases h1:j < o
 ·rw [if_pos h1,if_pos h1,List.getElem?_take,if_pos h1]
 ·rw [if_neg h1,if_neg h1,List.getElem?_append]
  by_cases h2:j < o+vs.length
  ·rw [if_pos (by omega),if_pos h2]
  ·rw [if_neg (by omega),if_neg h2,List.getElem?_drop]
   congr 1
   omega
theorem zeB {cs vs:List Value} {o:Nat} (hb:o+vs.length≤cs.length):(splice cs o vs).length=cs.length:=by
 unfold splice;rw [List.length_append,List.length_append,List.length_take,List.length_drop];omega
theorem zh6 {row vs cs:List Value} {o n off:Nat} (hc:cut row o n=some cs) (hb:off+vs.length≤n):cut (splice row (o+off) vs) o n=some (splice cs off vs):=by
 unfold cut at hc ⊢
 split at hc
 ·rename_i hle
  simp only [Option.some.injEq] at hc
  have hcl:cs.length=n:=by rw [← hc,List.length_take,List.length_drop];omega
  rw [if_pos (by rw [zeB (by omega)];exact hle)]
  congr 1
  apply List.ext_getElem?
  intro j
  rw [List.getElem?_take,List.getElem?_drop,zhf (by omega),zhf (by omega),← hc,List.getElem?_take,List.getElem?_drop]
  by_cases hj:j < n
  ·rw [if_pos hj,if_pos hj]
   by_cases h1:j < off
   ·rw [if_pos (by omega),if_pos h1]
   ·rw [if_neg (by omega),if_neg h1]
    by_cases h2:j < off+vs.length
    ·rw [if_pos (by omega),if_pos h2]
     congr 1
     omega
    ·rw [if_neg (by omega),if_neg h2]
  ·rw [if_neg hj,if_neg hj,if_neg (by omega),if_neg (by omega)]
 ·cases hc
theorem zeH {row vs cs:List Value} {o o2 n:Nat} (hc:cut row o n=some cs) (hb:o2+vs.length≤row.length) (hd:o+n≤o2∨o2+vs.length≤o):cut (splice row o2 vs) o n=some cs:=by
 unfold cut at hc ⊢
 split at hc
 ·rename_i hle
  simp only [Option.some.injEq] at hc
  rw [if_pos (by rw [zeB hb];exact hle),← hc]
  congr 1
  apply List.ext_getElem?
  intro j
  rw [List.getElem?_take,List.getElem?_take,List.getElem?_drop,List.getElem?_drop,zhf hb]
  by_cases hj:j < n
  ·rw [if_pos hj,if_pos hj]
   rcases hd with hd|hd
   ·rw [if_pos (by omega)]
   ·rw [if_neg (by omega),if_neg (by omega)]
  ·rw [if_neg hj,if_neg hj]
 ·cases hc
theorem OwF.store {n off:Nat} {vs:List Value} {val:Value} (hkl:∀ x,(cell x).length=k) (f:OwF k cell h1 u A v l) (hx:l[i]? = some x) (hs:zau T t=some n) (hoff:off+n≤k) (hv:val.cells.toList=vs) (hl:vs.length=n) (h1':vs.all one=true) (hy:splice (cell x) off vs=cell y)
 (hK:∀ h',OwF k cell h' u A v (l.set i y)→Chg A (h1.lay bs w) h'→K undef h'):memE (zaZ T t (.pointer (some ⟨A,i*k+off,none⟩)) val (h1.lay bs w)) K:=by
 have hi:i < l.length:=(List.getElem?_eq_some_iff.1 hx).1
 rcases f with ⟨_,rfl⟩|⟨q,row,rfl,e2,e3,e4,e5,e6⟩
 ·simp at hi
 have hb:i*k+off+n≤row.length:=by
  rw [e3]
  calc i*k+off+n≤i*k+k:=by omega
   _=(i+1)*k:=by rw [Nat.succ_mul]
   _≤q*k:=Nat.mul_le_mul_right _ (by omega)
 have hg:(h1.lay bs w).get A=some (.row row u false):=e2.lay bs w
 have hA:A < (h1.lay bs w).size:=(e2.on bs w).lt
 have hsz:val.cells.size=n:=by rw [← hl,← hv];simp
 have he:zaZ T t (.pointer (some ⟨A,i*k+off,none⟩)) val (h1.lay bs w)=some ((h1.lay bs w).set A (.row (splice row (i*k+off) vs) u false)):=by
  unfold zaZ
  simp only [hs,Option.bind_some]
  rw [if_pos hsz,hv]
  unfold zbQ
  rw [hg]
  simp only
  rw [if_pos (by simp only [Bool.and_eq_true,decide_eq_true_eq];exact ⟨by omega,h1'⟩)]
 rw [he]
 refine hK _ (.inr ⟨q,splice row (i*k+off) vs,by rw [List.length_set],zcZ hA,?_,by rw [List.length_set];exact e4,e5,fun j z hz=>?_⟩) (zdr hA)
 ·unfold splice;rw [List.length_append,List.length_append,List.length_take,List.length_drop];omega
 ·rw [List.getElem?_set] at hz
  by_cases hij:i=j
  ·rw [if_pos hij,if_pos hi] at hz
   cases hz
   rw [← hij,← hy]
   exact zh6 (e6 i x hx) (by omega)
  ·rw [if_neg hij] at hz
   refine zeH (e6 j z hz) (by omega) ?_
   rcases Nat.lt_or_gt_of_ne hij with h|h
   ·right
    have:(i+1)*k≤j*k:=Nat.mul_le_mul_right _ (by omega)
    rw [Nat.succ_mul] at this
    omega
   ·left
    have:(j+1)*k≤i*k:=Nat.mul_le_mul_right _ (by omega)
    rw [Nat.succ_mul] at this
    omega
theorem OwF.store0 {n:Nat} {vs:List Value} {val:Value} (hkl:∀ x,(cell x).length=k) (f:OwF k cell h1 u A v l) (hx:l[i]? = some x) (hs:zau T t=some n) (hoff:n≤k) (hv:val.cells.toList=vs) (hl:vs.length=n) (h1':vs.all one=true) (hy:splice (cell x) 0 vs=cell y)
 (hK:∀ h',OwF k cell h' u A v (l.set i y)→Chg A (h1.lay bs w) h'→K undef h'):memE (zaZ T t (.pointer (some ⟨A,i*k,none⟩)) val (h1.lay bs w)) K:=OwF.store (off:=0) hkl f hx hs (by omega) hv hl h1' hy hK
theorem OwF.cell1 {x:Value} {y:α} (f:OwF 1 cell h1 u A v l) (hx:l[i]? = some y) (hc:cell y=[x]) (bs:List Blk) (w:Nat):zdq ((h1.lay bs w).get A) (i*1)=some x:=by
 obtain ⟨row,q,c⟩:=f.row hx
 rw [hc] at c
 have hg:=q.lay bs w
 rw [hg]
 unfold cut at c
 split at c
 ·rename_i hle
  simp only [Option.some.injEq] at c
  show row[i*1]? = some x
  have:=congrArg (fun l=>l[0]?) c
  simp only [List.getElem?_take,List.getElem?_drop] at this
  simpa using this
 ·cases c
theorem zlO {q:Nat} (hk:0 < k) (hq:q≤1000000000):(G*k+q) % G=q∧(G*k+q) / G=k∧G≤G*k+q:=by
 have hG:1000000000 < G:=by unfold G;omega
 refine ⟨?_,?_,?_⟩
 ·rw [Nat.mul_add_mod,Nat.mod_eq_of_lt (by omega)]
 ·rw [Nat.mul_add_div (by omega),Nat.div_eq_of_lt (by omega),Nat.add_zero]
 ·have:G*1≤G*k:=Nat.mul_le_mul_left _ hk
  omega
theorem OwF.app {bytes j:Nat} {z:List Value} {u2:TypeId} {ro:Bool} {c:Nat} (hkl:∀ x,(cell x).length=k) (hone:(cell x).all one=true) (hk:0 < k) (hd:T.desc t=some (.slice u)) (hi:T.info u=some (k,bytes,z)) (f:OwF k cell h1 u A v l) (hg:bs[j]? = some (.row (cell x) u2 ro)) (hl:l.length < 900000000) (hb:(l.length+1)*bytes≤140737488355328)
 (hK:∀ v' h' A',OwF k cell h' u A' v' (l++[x])→(A'=A∧A < h1.size∨A'=(h1.lay bs w).size)→(v=.slice none 0 0→Ext (h1.lay bs w) h')→(A < h1.size→Chg A (h1.lay bs w) h')→K v' h') :
 optE (zaH T t v (.slice (some ⟨h1.size+j,0,none⟩) 1 c) (h1.lay bs w)) K:=by
 have hgt:(h1.lay bs w).get (h1.size+j)=some (.row (cell x) u2 ro):=by rw [zbd];exact hg
 have hjl:j < bs.length:=(List.getElem?_eq_some_iff.1 hg).1
 have hs:srcA (.slice (some ⟨h1.size+j,0,none⟩) 1 c) k (h1.lay bs w)=some (1,cell x):=by
  unfold srcA zbG
  simp only [Nat.one_mul]
  rw [if_neg (by omega)]
  unfold zaI
  rw [hgt]
  simp only
  unfold cut
  rw [if_pos (by rw [hkl];omega),List.drop_zero,List.take_of_length_le (by rw [hkl];exact Nat.le_refl _)]
  rfl
 have hnew:∀ (h2:Heap) (row:List Value),row.length=(l.length+1)*k→(∀ (i:Nat) (y:α),(l++[x])[i]? = some y→cut row (i*k) k=some (cell y)) →
  OwF k cell (h2.push (.row row u false)) u h2.size (.slice (some ⟨h2.size,0,none⟩) (l.length+1) (G*k+(l.length+1))) (l++[x]):=fun h2 row e1 e2 =>
  .inr ⟨l.length+1,row,by rw [List.length_append];rfl,⟨by rw [Heap.size_push];omega,by rw [Heap.get_push,if_pos rfl]⟩,e1,by rw [List.length_append];exact Nat.le_refl _,by omega,e2⟩
 rcases f with ⟨rfl,rfl⟩|⟨q,row,rfl,e2,e3,e4,e5,e6⟩
 ·have key:=zrE hd hi hk hs (by omega) hone (by simpa using hb) (by omega)
  rw [key]
  refine hK _ _ _ (hnew _ (cell x) (by rw [hkl];simp) (fun i y hy=>?_)) (.inr rfl) (fun _=>?_) (fun hA=>?_)
  ·cases i with
   |zero =>
    simp at hy
    subst hy
    unfold cut
    rw [if_pos (by rw [hkl];omega),Nat.zero_mul,List.drop_zero,List.take_of_length_le (by rw [hkl];exact Nat.le_refl _)]
   |succ i=>simp at hy
  ·exact Ext.push _ _
  ·exact (Ext.push _ _).chg
 ·obtain ⟨c1,c2,c3⟩:=zlO (k:=k) (q:=q) hk e5
  have hg2:(h1.lay bs w).get A=some (.row row u false):=e2.lay bs w
  have hA:A < (h1.lay bs w).size:=(e2.on bs w).lt
  unfold zaH
  simp only [hd,hi,hs,Option.bind_some]
  rw [if_neg (by omega),if_neg (by
   simp only [Bool.or_eq_true,decide_eq_true_eq,Bool.not_eq_true',not_or]
   refine ⟨⟨⟨by omega,by omega⟩,by omega⟩,by rw [hone];decide⟩),c1]
  by_cases hq:l.length+1≤q
  ·rw [if_pos hq,if_pos (by simp [c2])]
   have hb2:0+l.length*k+(cell x).length≤row.length:=by
    rw [e3,hkl]
    have:(l.length+1)*k≤q*k:=Nat.mul_le_mul_right _ hq
    rw [Nat.succ_mul] at this
    omega
   have hw:zbQ A (0+l.length*k) (cell x) (h1.lay bs w)=some ((h1.lay bs w).set A (.row (splice row (0+l.length*k) (cell x)) u false)):=by
    unfold zbQ
    rw [hg2]
    simp only
    rw [if_pos (by simp only [Bool.and_eq_true,decide_eq_true_eq];exact ⟨hb2,hone⟩)]
   rw [hw]
   refine hK _ _ A (.inr ⟨q,splice row (0+l.length*k) (cell x),by rw [List.length_append];rfl,zcZ hA,?_,by rw [List.length_append];exact hq,e5,fun j z hz=>?_⟩) (.inl ⟨rfl,e2.lt⟩) (fun h=>by cases h) (fun _=>zdr hA)
   ·unfold splice;rw [List.length_append,List.length_append,List.length_take,List.length_drop];omega
   ·rw [Nat.zero_add] at hb2 ⊢
    rw [List.getElem?_append] at hz
    by_cases hj:j < l.length
    ·rw [if_pos hj] at hz
     refine zeH (e6 j z hz) hb2 (.inl ?_)
     have:(j+1)*k≤l.length*k:=Nat.mul_le_mul_right _ hj
     rw [Nat.succ_mul] at this
     exact this
    ·rw [if_neg hj] at hz
     have hjl:j=l.length:=by
      have:=(List.getElem?_eq_some_iff.1 hz).1
      simp only [List.length_singleton] at this
      omega
     subst hjl
     rw [Nat.sub_self,List.getElem?_cons_zero] at hz
     cases hz
     unfold cut splice
     rw [if_pos (by rw [List.length_append,List.length_append,List.length_take,List.length_drop,hkl];rw [hkl] at hb2;omega),List.append_assoc,List.drop_append,List.length_take,List.drop_of_length_le (by rw [List.length_take];omega),List.nil_append]
     rw [show l.length*k - min (l.length*k) row.length=0 by omega,List.drop_zero,List.take_append_of_le_length (by rw [hkl];exact Nat.le_refl _),List.take_of_length_le (by rw [hkl];exact Nat.le_refl _)]
  ·rw [if_neg hq]
   have hql:l.length=q:=by omega
   have hc:zbG (.slice (some ⟨A,0,none⟩) l.length (G*k+q)) k (h1.lay bs w)=some row:=by
    unfold zbG
    simp only
    by_cases h0:l.length*k=0
    ·rw [if_pos h0]
     congr 1
     rw [hql,← e3] at h0
     exact (List.length_eq_zero_iff.1 h0).symm
    ·rw [if_neg h0]
     unfold zaI
     rw [hg2]
     simp only
     unfold cut
     rw [if_pos (by rw [e3,hql];omega),List.drop_zero,List.take_of_length_le (by rw [e3,hql];exact Nat.le_refl _)]
   rw [hc]
   simp only [Option.bind_some]
   rw [if_neg (by omega)]
   simp only [hg2]
   rw [if_pos (by simp [c2])]
   have hset:((h1.lay bs w).set A .dead).size=(h1.lay bs w).size:=Heap.size_set _ _ _
   have hn:=hnew ((h1.lay bs w).set A .dead) (row++cell x) (by rw [List.length_append,hkl,e3,hql,Nat.succ_mul]) (fun i y hy=>by
    rw [List.getElem?_append] at hy
    by_cases hj:i < l.length
    ·rw [if_pos hj] at hy
     exact zrY (e6 i y hy)
    ·rw [if_neg hj] at hy
     have hjl:i=l.length:=by
      have:=(List.getElem?_eq_some_iff.1 hy).1
      simp only [List.length_singleton] at this
      omega
     subst hjl
     rw [Nat.sub_self,List.getElem?_cons_zero] at hy
     cases hy
     have:=zpa (a:=row) (b:=cell x) (o:=0) (n:=k) (c:=cell x) (by unfold cut;rw [if_pos (by rw [hkl];omega),List.drop_zero,List.take_of_length_le (by rw [hkl];exact Nat.le_refl _)])
     rw [Nat.add_zero,e3,← hql] at this
     exact this)
   rw [hset] at hn
   exact hK _ _ _ hn (.inr rfl) (fun h=>by cases h) (fun _=>((zdr hA).trans (Ext.push _ _).chg))
theorem OwF.pop {n:Nat} (hk:0 < k) (hd:T.desc t=some (.slice u)) (hs:zau T u=some k) (f:OwF k cell h u A v l) (hn:n≤l.length) (hne:l≠[]):∃ v',zbl T t v none (some (.int kd (n:Nat))) none=some v'∧OwF k cell h u A v' (l.take n):=by
 rcases f with ⟨_,rfl⟩|⟨q,row,rfl,e2,e3,e4,e5,e6⟩
 ·exact absurd rfl hne
 ·obtain ⟨c1,c2,c3⟩:=zlO (k:=k) (q:=q) hk e5
  refine ⟨.slice (some ⟨A,0,none⟩) n (G*k+q),?_,.inr ⟨q,row,by rw [List.length_take,Nat.min_eq_left hn],e2,e3,by rw [List.length_take];omega,e5,fun i x hx=>e6 i x ?_⟩⟩
  ·unfold zbl zbH zgQ
   simp only [hd,hs,Option.bind_some]
   rw [if_neg (by omega)]
   simp only [c2,if_true,c1]
   rw [if_pos (by omega)]
   simp
  ·rw [List.getElem?_take] at hx
   split at hx
   ·exact hx
   ·cases hx
end
end Go.Am
