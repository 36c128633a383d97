/- Ranges over functions that turn three blocks: a map's, a box, the elements behind it. No condition. -/
import Derived.Test.YtiapegieocgmfaaGreatDoorG24
import Derived.Test.YtiapegieocgmfaaGreatDoorGIfx
set_option linter.unusedSimpArgs false
set_option linter.unusedVariables false
namespace Go.Am
variable {L:Nat}
def dk (M X A:Nat) (h:Heap):Heap:=kill A (kill X (kill M h))
theorem HC (M X A:Nat) (h:Heap):(dk M X A h).size=h.size:=by unfold dk;rw [tA,tA,tA]
theorem zCn (M X A:Nat) (h:Heap):bL (dk M X A h) h:=(Jr _ _).trans ((Jr _ _).trans (Jr _ _))
theorem Cy {M X A C:Nat} {h:Heap} (h1:C≠A) (h2:C≠X) (h3:C≠M):(dk M X A h).get C=h.get C:=by
 unfold dk
 rw [xb h1,xb h2,xb h3]
theorem zqG {M X A C:Nat} {h:Heap} (hC:C < h.size) (hd:C=A\/C=X\/C=M):(dk M X A h).get C=some .dead:=by
 unfold dk
 by_cases h1:C=A
 .subst h1
  exact Ht (by rw [tA,tA];exact hC)
 rw [xb h1]
 by_cases h2:C=X
 .subst h2
  exact Ht (by rw [tA];exact hC)
 rw [xb h2]
 have h3:C=M:=by rcases hd with h|h|h <;> first|exact absurd h h1|exact absurd h h2|exact h
 subst h3
 exact Ht hC
theorem Uj {M X A C:Nat} {h:Heap} (hC:C < h.size) (hd:(dk M X A h).get C≠some .dead):C≠A/\C≠X/\C≠M :=
 ⟨λe=>hd (zqG hC (.inl e)),λe=>hd (zqG hC (.inr (.inl e))),λe=>hd (zqG hC (.inr (.inr e)))⟩
structure Kn (M X:Nat) (B:Heap) (A:Nat) (h:Heap):Prop where
 m:M < h.size
 x:X < h.size
 lt:A < h.size
 inc:bL B (dk M X A h)
section
variable {M X A A' C:Nat} {B h h1 h2:Heap} {bs:List ba} {w:Nat} {b:ba}
theorem zCt {a d:Heap} (i:bL a d):bL (dk M X A a) (dk M X A d):=Qr (Qr (Qr i))
theorem Kn.start (hm:M < h1.size) (hx:X < h1.size) (hA:A < h1.size):Kn M X (dk M X A h1) A h1:=⟨hm,hx,hA,bL.refl _⟩
theorem Kn.all (k:Kn M X B A h1):bL B h1:=k.inc.trans (zCn _ _ _ _)
theorem Kn.mono (k:Kn M X B A h1) (i:bL h1 h2):Kn M X B A h2:=⟨dB k.m i.size,dB k.x i.size,dB k.lt i.size,k.inc.trans (zCt i)⟩
theorem Kn.over (k:Kn M X B A h1) (x:Ext (h1.lay bs w) h2):Kn M X B A h2:=k.mono ((bL.lay _ _ _).trans x.inc)
theorem Kn.lay (k:Kn M X B A h1) (bs:List ba) (w:Nat):Kn M X B A (h1.lay bs w):=k.mono (bL.lay _ _ _)
theorem Kn.trans (k:Kn M X B A h1) (k2:Kn M X (dk M X A h1) A' h2):Kn M X B A' h2:=⟨k2.m,k2.x,k2.lt,k.inc.trans k2.inc⟩
theorem Kn.holds (k:Kn M X B A h1) (q:Holds B C b) (hb:b≠.dead):Holds h1 C b/\C≠A/\C≠X/\C≠M:=by
 have hC:C < h1.size:=dB q.lt k.all.size
 have hg:=k.inc.get C q.lt (by rw [q.get];exact λe=>hb (Option.some.inj e))
 rw [q.get] at hg
 have aQ:=Uj hC (by rw [hg];exact λe=>hb (Option.some.inj e))
 exact ⟨⟨hC,by rw [<- hg,Cy aQ.1 aQ.2.1 aQ.2.2]⟩,aQ⟩
theorem Holds.dk (q:Holds h1 C b) (hA:C≠A) (hX:C≠X) (hM:C≠M):Holds (dk M X A h1) C b:=⟨by rw [HC];exact q.lt,by rw [Cy hA hX hM];exact q.get⟩
theorem Kn.keep (k:Kn M X (Go.Am.dk M X A h1) A' h2) (q:Holds h1 C b) (hA:C≠A) (hX:C≠X) (hM:C≠M) (hb:b≠.dead):Holds h2 C b/\C≠A' :=
 have:=k.holds (q.dk hA hX hM) hb
 ⟨this.1,this.2.1⟩
theorem Kn.step (k:Kn M X B A h1) (c:eG A (h1.lay bs w) h2) (hA:A'=A\/h1.size<=A') (hl:A' < h2.size):Kn M X B A' h2:=by
 have hs:h1.size<=(h1.lay bs w).size:=by rw [bc];omega
 have gV:=c.size
 refine ⟨dB k.m (by omega),dB k.x (by omega),hl,⟨by rw [HC];exact gn k.all.size (by omega),λC hC hd=>?_⟩⟩
 have h3:=k.inc.get C hC hd
 have RU:C < h1.size:=dB hC k.all.size
 have aQ:=Uj RU (by rw [h3];exact hd)
 rw [Cy aQ.1 aQ.2.1 aQ.2.2] at h3
 rw [Cy (by rcases hA with e|e <;> omega) aQ.2.1 aQ.2.2,c.get C (by omega) aQ.1,uz _ _ _ RU]
 exact h3
theorem Kn.round {h3:Heap} (c:eG L h h1) (k:Kn M X (Go.Am.dk M X A h1) A' h2) (c2:eG L h2 h3) (hb:h3.get L=h.get L) (hL:L≠A'/\L≠X/\L≠M):Kn M X (Go.Am.dk M X A h) A' h3:=by
 have hs:=c.size
 have gV:=c2.size
 have yz:=k.all.size
 rw [HC] at yz
 refine ⟨dB k.m gV,dB k.x gV,dB k.lt gV,⟨by rw [HC,HC];omega,λD hD hd=>?_⟩⟩
 rw [HC] at hD
 have aQ:=Uj hD hd
 rw [Cy aQ.1 aQ.2.1 aQ.2.2] at hd ⊢
 by_cases WO:D=L
 .subst WO
  rw [Cy hL.1 hL.2.1 hL.2.2,hb]
 .have g1:=c.get D hD WO
  have g2:=k.inc.get D (by rw [HC];omega) (by rw [Cy aQ.1 aQ.2.1 aQ.2.2,g1];exact hd)
  rw [Cy aQ.1 aQ.2.1 aQ.2.2,g1] at g2
  have yH:=Uj (h:=h2) (M:=M) (X:=X) (A:=A') (C:=D) (by omega) (by rw [g2];exact hd)
  rw [Cy yH.1 yH.2.1 yH.2.2] at g2 ⊢
  rw [c2.get D (by omega) WO,g2]
end
theorem Ow.low {Z:Type} {r:aM Z} {h0 h1 h:Heap} {e A:Nat} {v:ab} {l:List Z} (hs:h0.size<=h1.size) (f:Ow r h1 h e A v l):Ow r h0 h e A v l:=by
 rcases f with ⟨e1,e2,e3⟩|⟨row,e1,e2,e3,e4⟩
 .refine .inl ⟨by omega,e2,?_⟩
  rcases e3 with e3|⟨B,o,g1,g2,g3⟩
  .exact .inl e3
  .exact .inr ⟨B,o,g1,by omega,g3⟩
 .exact .inr ⟨row,e1,e2,by omega,e4⟩
def rU {Z:Type} (r:aM Z) (h0 h:Heap) (e:TypeId) (v:ab) (l:List Z):Prop:=∃ A,Ow r h0 h e A v l
section
variable {Z:Type} {r:aM Z} {h0 h0' h h' h1 h2:Heap} {e:TypeId} {v:ab} {l:List Z}
theorem rU.mono (f:rU r h0 h e v l) (i:bL h h'):rU r h0 h' e v l:=f.elim λA o=>⟨A,o.mono i⟩
theorem rU.over {bs:List ba} {w:Nat} (f:rU r h0 h1 e v l) (x:Ext (h1.lay bs w) h2):rU r h0 h2 e v l:=f.elim λA o=>⟨A,o.over x⟩
theorem rU.lay (f:rU r h0 h e v l) (bs:List ba) (w:Nat):rU r h0 (h.lay bs w) e v l:=f.mono (bL.lay _ _ _)
theorem rU.low (hs:h0'.size<=h0.size) (f:rU r h0 h e v l):rU r h0' h e v l:=f.elim λA o=>⟨A,o.low hs⟩
theorem rU.sl (f:rU r h0 h e v l) (hk:0 < r.k):Sl r h v l:=f.elim λA o=>o.sl hk
theorem rU.dk {M X A:Nat} (f:rU r h0 h e v l) (hk:0 < r.k) (fU:∀ h h' cs x,r.R h cs x->r.R h' cs x) (hM:M < h0.size) (hX:X < h0.size) (hA:A < h0.size):Sl r (dk M X A h) v l :=
 f.elim λB o=>(((o.kill fU hM).kill fU hX).kill fU hA).sl hk
end
section
variable {P:Program} {T:bI} {ov:Ov} {M X:Nat} {h0:Heap} {J:List (List dQ)->Nat->Heap->Prop} {fy:ab}
structure Sm (L:Nat) (h h':Heap):Prop where
 size:h.size<=h'.size
 get:∀ B,B < h.size->B≠L->h'.get B=h.get B
theorem eG.sm {h h':Heap} (c:eG L h h'):Sm L h h':=⟨c.size,c.get⟩
theorem Ext.sm {h h':Heap} (x:Ext h h') (L:Nat):Sm L h h':=⟨x.size,λB hB _=>x.get B hB⟩
theorem zCO (h:Heap) (bs:List ba) (w L:Nat):Sm L h (h.lay bs w):=⟨by rw [bc];omega,λB hB _=>uz h bs w hB⟩
theorem Holds.sm {C:Nat} {h h':Heap} {b:ba} (q:Holds h C b) (s:Sm L h h') (aQ:C≠L):Holds h' C b:=⟨dB q.lt s.size,(s.get C q.lt aQ).trans q.get⟩
structure Le (N M X:Nat) (J:List (List dQ)->Nat->Heap->Prop):Prop where
 m:M < N
 x:X < N
 lt:∀ {done A h},J done A h->M < h.size/\X < h.size/\A < h.size
 sm:∀ {done A h1 h2 L},J done A h1->Sm L h1 h2->N<=L->L≠A->J done A h2
theorem Le.lay {N:Nat} (s:Le N M X J) {done:List (List dQ)} {A:Nat} {h1:Heap} (j:J done A h1) (bs:List ba) (w:Nat):J done A (h1.lay bs w):=by
 have hl:=s.lt j
 exact s.sm (L:=N+h1.size) j (zCO _ _ _ _) (by omega) (by omega)
theorem Le.over {N:Nat} (s:Le N M X J) {done:List (List dQ)} {A w:Nat} {h1 h2:Heap} {bs:List ba} (j:J done A h1) (x:Ext (h1.lay bs w) h2):J done A h2:=by
 have hl:=s.lt j
 exact s.sm (L:=N+h1.size) (s.lay j bs w) (x.sm _) (by omega) (by omega)
structure JJ (N M X:Nat) (J:List (List dQ)->Nat->Heap->Prop) (done:List (List dQ)) (A:Nat) (h:Heap):Prop where
 st:Le N M X J
 j:J done A h
theorem JJ.lay {N:Nat} {done:List (List dQ)} {A:Nat} {h1:Heap} (f:JJ N M X J done A h1) (bs:List ba) (w:Nat):JJ N M X J done A (h1.lay bs w):=⟨f.st,f.st.lay f.j bs w⟩
theorem JJ.over {N:Nat} {done:List (List dQ)} {A w:Nat} {h1 h2:Heap} {bs:List ba} (f:JJ N M X J done A h1) (x:Ext (h1.lay bs w) h2):JJ N M X J done A h2:=⟨f.st,f.st.over f.j x⟩
end
theorem Ow.sm {Z:Type} {r:aM Z} {h0 h h':Heap} {e:TypeId} {A:Nat} {v:ab} {l:List Z} (fU:∀ h h' cs x,r.R h cs x->r.R h' cs x) (f:Ow r h0 h e A v l) (c:Sm L h h') (hL:L≠A) (hn:l=[]->∀ B o x n c,v=.slice (some ⟨B,o,x⟩) n c->B≠L):Ow r h0 h' e A v l:=by
 rcases f with ⟨e1,e2,e3⟩|⟨row,e1,e2,e3,e4,e5,e6,e7,e8⟩
 .refine .inl ⟨e1,e2,?_⟩
  rcases e3 with e3|⟨B,o,g1,g2,g3,row,u,ro,g4⟩
  .exact .inl e3
  .exact .inr ⟨B,o,g1,g2,dB g3 c.size,row,u,ro,by rw [c.get B g3 (hn e2 _ _ _ _ _ g1)];exact g4⟩
 .refine .inr ⟨row,e1,e2,e3,dB e4 c.size,by rw [c.get A e4 (Ne.symm hL)];exact e5,e6,e7,λi x hx=>?_⟩
  obtain ⟨cs,g1,g2⟩:=e8 i x hx
  exact ⟨cs,g1,fU _ _ _ _ g2⟩
theorem dF.sm {κ:Type} {kv:κ->ab} {h h':Heap} {A L:Nat} {met:List κ} (m:dF kv h A met) (c:Sm L h h') (aQ:A≠L):dF kv h' A met:=by
 obtain ⟨es,cl,ks,m1,m2,m3⟩:=m
 exact ⟨es,cl,ks,m1.sm c aQ,m2,m3⟩
structure RJ (hb:Heap) (N:Nat) (u1 u2:TypeId) (M X:Nat) (facts heads:aS) (A:Nat) (h:Heap):Prop where
 lt:M < h.size/\X < h.size/\A < h.size
 map:∃ met,dF ak.val h M met/\∀ a,a∈met↔a∈heads
 out:∃ (v:ab) (out:aS),Holds h X (.row [v] u1 false)/\(∀ a,a∈out↔a∈facts\/a∈heads)/\out.length<=facts.length+heads.length/\Ow aM.atom hb h u2 A v out/\(out≠[]->A≠X/\A≠M)/\(out=[]->A=X/\∀ B o x n c,v=.slice (some ⟨B,o,x⟩) n c->B < N)
theorem RJ.sm {hb h1 h2:Heap} {N M X A L:Nat} {u1 u2:TypeId} {facts heads:aS} (f:RJ hb N u1 u2 M X facts heads A h1) (hM:M < N) (hX:X < N) (c:Sm L h1 h2) (hN:N<=L) (hL:L≠A):RJ hb N u1 u2 M X facts heads A h2:=by
 obtain ⟨⟨f1,f2,f3⟩,⟨met,m1,m2⟩,v,out,o1,o2,o3,o4,o5,o6⟩:=f
 have hs:=c.size
 exact ⟨by omega,⟨met,m1.sm c (by omega),m2⟩,v,out,o1.sm c (by omega),o2,o3,o4.sm (λ_ _ _ _ h=>h) c hL (λe B o x n c hv=>by have:=(o6 e).2 B o x n c hv;omega),o5,o6⟩
theorem RJ.over {hb h1 h2:Heap} {N M X A w:Nat} {u1 u2:TypeId} {bs:List ba} {facts heads:aS} (f:RJ hb N u1 u2 M X facts heads A h1) (x:Ext (h1.lay bs w) h2):RJ hb N u1 u2 M X facts heads A h2:=by
 obtain ⟨⟨f1,f2,f3⟩,⟨met,m1,m2⟩,v,out,o1,o2,o3,o4,o5⟩:=f
 have hs:=x.size
 rw [bc] at hs
 exact ⟨by omega,⟨met,m1.over x,m2⟩,v,out,o1.over x,o2,o3,o4.over x,o5⟩
theorem RJ.lay {hb h1:Heap} {N M X A:Nat} {u1 u2:TypeId} {facts heads:aS} (f:RJ hb N u1 u2 M X facts heads A h1) (bs:List ba) (w:Nat):RJ hb N u1 u2 M X facts heads A (h1.lay bs w):=f.over (Ext.refl _)
end Go.Am
namespace Go.Am
variable {n o:Nat} {cs vs:List ab}
structure aL (D:List Nat) (h h':Heap):Prop where
 size:h.size<=h'.size
 get:∀ B,B < h.size->B ∉ D->h'.get B=h.get B
section
variable {D D':List Nat} {a b c h h1 h2:Heap} {A B w:Nat} {bs:List ba} {k:ba}
theorem aL.refl (D:List Nat) (h:Heap):aL D h h:=⟨bj _,λ_ _ _=>rfl⟩
theorem Ext.bN (x:Ext a b) (D:List Nat):aL D a b:=⟨x.size,λB hB _=>x.get B hB⟩
theorem eG.bN (x:eG A a b) (hA:A∈D):aL D a b:=⟨x.size,λB hB hD=>x.get B hB (λe=>hD (e ▸ hA))⟩
theorem aL.lay (a:Heap) (bs:List ba) (w:Nat) (D:List Nat):aL D a (a.lay bs w):=⟨by rw [bc];omega,λB hB _=>uz a bs w hB⟩
theorem aL.trans (f:aL D a b) (g:aL D' b c) (hD:∀ B∈D',B∈D\/a.size<=B):aL D a c :=
 ⟨gn f.size g.size,λB hB hn=>(g.get B (dB hB f.size) (λhh=>(hD B hh).elim hn (λe=>by omega))).trans (f.get B hB hn)⟩
theorem aL.over (f:aL D a h1) (x:Ext (h1.lay bs w) h2):aL D a h2:=(f.trans (aL.lay h1 bs w []) (λ_ h=>nomatch h)).trans (x.bN []) (λ_ h=>nomatch h)
theorem aL.iL (f:aL D a h1) (x:eG A (h1.lay bs w) h2) (hA:A∈D\/a.size<=A):aL D a h2 :=
 (f.trans (aL.lay h1 bs w []) (λ_ h=>nomatch h)).trans (x.bN (D:=[A]) (by simp)) (λB hB=>by rw [hU.1 hB];exact hA)
theorem aL.mono (f:aL D a b) (hs:∀ B∈D,B∈D'):aL D' a b:=⟨f.size,λB hB hn=>f.get B hB (λh=>hn (hs B h))⟩
theorem Holds.bN (q:Holds a B k) (f:aL D a b) (hB:B ∉ D):Holds b B k:=⟨dB q.lt f.size,(f.get B q.lt hB).trans q.get⟩
theorem aL.all (f:aL [] a b):bL a b:=⟨f.size,λB hB _=>f.get B hB (by simp)⟩
theorem Holds.di (q:Holds a B k) (f:aL [] a b):Holds b B k:=⟨dB q.lt f.size,(f.get B q.lt (by simp)).trans q.get⟩
def aG:List Nat->Heap->Heap
 | [],h=>h
 |A::D,h=>kill A (aG D h)
theorem iC:∀ (D:List Nat) (h:Heap),(aG D h).size=h.size
 | [],_=>rfl
 |A::D,h=>by unfold aG;rw [tA,iC D h]
theorem rH:∀ (D:List Nat) (h:Heap),bL (aG D h) h
 | [],h=>bL.refl h
 |A::D,h=>(Jr A _).trans (rH D h)
theorem oS:∀ {D:List Nat} {h:Heap} {B:Nat},B ∉ D->(aG D h).get B=h.get B
 | [],_,_,_=>rfl
 |A::D,h,B,hn=>by
  unfold aG
  rw [xb (λe=>hn (by rw [e];exact jm)),oS (λhh=>hn (fB _ hh))]
theorem Ar:∀ {D:List Nat} {h:Heap} {B:Nat},B∈D->B < h.size->(aG D h).get B=some .dead
 |A::D,h,B,hm,hB=>by
  unfold aG
  by_cases he:B=A
  .subst he;exact Ht (by rw [iC];exact hB)
  .rw [xb he]
   exact Ar ((dh.1 hm).resolve_left he) hB
theorem aL.inc (f:aL D a b) (hD:∀ B∈D',B∈D\/a.size<=B):bL (aG D a) (aG D' b):=by
 refine ⟨by rw [iC,iC];exact f.size,λB hB hd=>?_⟩
 rw [iC] at hB
 have hn:B ∉ D:=λhh=>hd (Ar hh hB)
 rw [oS hn,oS (λhh=>(hD B hh).elim hn (λe=>by omega))]
 exact f.get B hB hn
theorem zoI (z:bL a b) (hD:∀ B∈D,a.size<=B):bL a (aG D b):=⟨by rw [iC];exact z.size,λB hB hd=>by rw [oS (λhh=>by have:=hD B hh;omega)];exact z.get B hB hd⟩
end
theorem Ow.aG {Z:Type} {r:aM Z} {h0 h:Heap} {e:TypeId} {A:Nat} {v:ab} {l:List Z} {D:List Nat} (f:Ow r h0 h e A v l) (fU:∀ h h' cs x,r.R h cs x->r.R h' cs x) (hk:0 < r.k) (hD:∀ B∈D,B < h0.size):Sl r (aG D h) v l:=by
 have eT:∀ {B},h0.size<=B->B ∉ D:=λhB hh=>by have:=hD _ hh;omega
 rcases f with ⟨_,rfl,rfl|⟨B,o,rfl,g0,g2,row,u,ro,g3⟩⟩|⟨row,e1,e2,e3,e4,e5,e6,e7,e8⟩
 .exact .nil
 .exact .inr ⟨B,o,0,row,u,ro,rfl,lE _,.inl ⟨by unfold G;omega,bj _⟩,by rw [iC];exact g2,by rw [oS (eT g0)];exact g3,λi x hx=>by simp at hx⟩
 .obtain ⟨c1,c2,c3⟩:=Ct (k:=r.k) (q:=l.length) hk (by unfold G;omega)
  refine .inr ⟨A,0,_,row,e,false,e1,by unfold maxLen;omega,.inr ⟨by omega,c3,by omega⟩,by rw [iC];exact e4,by rw [oS (eT e3)];exact e5,λi x hx=>?_⟩
  obtain ⟨cs,g1,g2⟩:=e8 i x hx
  exact ⟨cs,by simpa using g1,fU _ _ _ _ g2⟩
theorem Ow.turn {Z:Type} {r:aM Z} {h0 h h':Heap} {e:TypeId} {A C:Nat} {v:ab} {l:List Z} {row:List ab} {u:TypeId} {ro:Bool} (fU:∀ h h' cs x,r.R h cs x->r.R h' cs x) (f:Ow r h0 h e A v l) (c:eG C h h') (hC:C≠A) (q:Holds h' C (.row row u ro)):Ow r h0 h' e A v l:=by
 rcases f with ⟨e1,e2,e3⟩|⟨row,e1,e2,e3,e4,e5,e6,e7,e8⟩
 .refine .inl ⟨e1,e2,?_⟩
  rcases e3 with e3|⟨B,o,g1,g0,g2,qh,u2,ro2,g3⟩
  .exact .inl e3
  .refine .inr ⟨B,o,g1,g0,dB g2 c.size,?_⟩
   by_cases hB:B=C
   .subst hB;exact ⟨_,_,_,q.get⟩
   .exact ⟨qh,u2,ro2,by rw [c.get B g2 hB];exact g3⟩
 .refine .inr ⟨row,e1,e2,e3,dB e4 c.size,by rw [c.get A e4 (Ne.symm hC)];exact e5,e6,e7,λi x hx=>?_⟩
  obtain ⟨cs,g1,g2⟩:=e8 i x hx
  exact ⟨cs,g1,fU _ _ _ _ g2⟩
def cC {Z:Type} (k:Nat) (cell:Z->List ab) (h:Heap) (u:TypeId) (A:Nat) (v:ab) (l:List Z):Prop :=
 (v=.slice none 0 0/\l=[])\/∃ (q:Nat) (row:List ab),v=.slice (some ⟨A,0,none⟩) l.length (G*k+q)/\Holds h A (.row row u false)/\row.length=q*k/\l.length<=q/\q<=1000000000/\∀ (i:Nat) (x:Z),l[i]? = some x->cut row (i*k) k=some (cell x)
section
variable {Z:Type} {k:Nat} {cell:Z->List ab} {h h1 h2:Heap} {u:TypeId} {A:Nat} {v:ab} {l:List Z} {T:bI} {t e:TypeId} {K:aF} {bs:List ba} {w i:Nat} {x y:Z} {kd:IntKind}
theorem cC.nil:cC k cell h u A (.slice none 0 0) []:=.inl ⟨rfl,rfl⟩
theorem cC.hold (f:cC k cell h u A v l) (hO:∀ b,Holds h A b->Holds h1 A b):cC k cell h1 u A v l:=by
 rcases f with f|⟨q,row,e1,e2,e3⟩
 .exact .inl f
 .exact .inr ⟨q,row,e1,hO _ e2,e3⟩
theorem cC.over (f:cC k cell h1 u A v l) (x:Ext (h1.lay bs w) h2):cC k cell h2 u A v l:=f.hold λb q=>q.over x
theorem cC.lay (f:cC k cell h1 u A v l) (bs:List ba) (w:Nat):cC k cell (h1.lay bs w) u A v l:=f.hold λb q=>q.on bs w
theorem cC.br {B:Nat} (f:cC k cell h1 u A v l) (c:eG B (h1.lay bs w) h2) (aQ:A≠B):cC k cell h2 u A v l:=f.hold λb q=>q.br c aQ
theorem cC.bN {D:List Nat} (f:cC k cell h1 u A v l) (c:aL D h1 h2) (aQ:A ∉ D):cC k cell h2 u A v l:=f.hold λb q=>q.bN c aQ
theorem cC.bo (f:cC k cell h u A v l) (hd:T.desc t=some (.slice e)) (h2:Heap):Am.bo T t v h2=some (.int .i64 l.length):=by
 rcases f with ⟨rfl,rfl⟩|⟨q,row,rfl,_⟩
 .simp [Am.bo,hd]
 .simp [Am.bo,hd]
theorem cC.shape (f:cC k cell h u A v l):∃ a n c,v=.slice a n c:=by
 rcases f with ⟨rfl,rfl⟩|⟨q,row,rfl,_⟩
 .exact ⟨_,_,_,rfl⟩
 .exact ⟨_,_,_,rfl⟩
theorem cC.nM (f:cC k cell h u A v l):l.length<=1000000000:=by
 rcases f with ⟨_,rfl⟩|⟨q,row,_,_,_,h1,h2,_⟩
 .exact lE _
 .omega
theorem cC.ix (f:cC k cell h u A v l) (hd:T.desc t=some (.slice e)) (hs:dg T e=some k) (hi:i < l.length):kh T t v (.int kd (i:Nat))=some (.pointer (some ⟨A,i*k,none⟩)):=by
 rcases f with ⟨_,rfl⟩|⟨q,row,rfl,e2,e3,e4,e5,e6⟩
 .simp at hi
 .unfold kh
  simp only [hd]
  rw [aE ⟨by omega,by omega⟩,hs]
  simp
theorem cC.row (f:cC k cell h u A v l) (hx:l[i]? = some x):∃ row,Holds h A (.row row u false)/\cut row (i*k) k=some (cell x):=by
 rcases f with ⟨_,rfl⟩|⟨q,row,rfl,e2,e3,e4,e5,e6⟩
 .simp at hx
 .exact ⟨row,e2,e6 i x hx⟩
theorem cC.at (hk:∀ x,(cell x).length=k) (f:cC k cell h u A v l) (hx:l[i]? = some x):eF h (.pointer (some ⟨A,i*k,none⟩)) (cell x):=by
 obtain ⟨row,q,c⟩:=f.row hx
 exact ⟨A,_,row,u,false,rfl,q.lt,q.get,by rw [hk];exact c⟩
theorem cC.lt (f:cC k cell h u A v l) (aQ:l≠[]):A < h.size:=by
 rcases f with ⟨_,rfl⟩|⟨q,row,rfl,e2,_⟩
 .exact absurd rfl aQ
 .exact e2.lt
theorem zhB (hb:o+vs.length<=cs.length) (j:Nat):(aB cs o vs)[j]? = if j < o then cs[j]? else if j < o+vs.length then vs[j - o]? else cs[j]? := by
 unfold aB
 rw [j7,xw,gh,Nat.min_eq_left (by omega)]
 by_cases h1:j < o
 .rw [aE h1,aE h1,mi,aE h1]
 .rw [az h1,az h1,xw]
  by_cases h2:j < o+vs.length
  .rw [aE (by omega),aE h2]
  .rw [az (by omega),az h2,lL]
   congr 1
   omega
theorem zg4 (hb:o+vs.length<=cs.length):(aB cs o vs).length=cs.length:=by
 unfold aB;rw [dy,dy,gh,kP];omega
theorem ziY {row:List ab} {off:Nat} (hc:cut row o n=some cs) (hb:off+vs.length<=n):cut (aB row (o+off) vs) o n=some (aB cs off vs):=by
 unfold cut at hc ⊢
 split at hc
 .rename_i hle
  simp only [dO] at hc
  have lI:cs.length=n:=by rw [<- hc,gh,kP];omega
  rw [aE (by rw [zg4 (by omega)];exact hle)]
  congr 1
  apply qN
  intro j
  rw [mi,lL,zhB (by omega),zhB (by omega),<- hc,mi,lL]
  by_cases hj:j < n
  .rw [aE hj,aE hj]
   by_cases h1:j < off
   .rw [aE (by omega),aE h1]
   .rw [az (by omega),az h1]
    by_cases h2:j < off+vs.length
    .rw [aE (by omega),aE h2]
     congr 1
     omega
    .rw [az (by omega),az h2]
  .rw [az hj,az hj,az (by omega),az (by omega)]
 .cases hc
theorem zeP {row:List ab} {o2:Nat} (hc:cut row o n=some cs) (hb:o2+vs.length<=row.length) (hd:o+n<=o2\/o2+vs.length<=o):cut (aB row o2 vs) o n=some cs:=by
 unfold cut at hc ⊢
 split at hc
 .rename_i hle
  simp only [dO] at hc
  rw [aE (by rw [zg4 hb];exact hle),<- hc]
  congr 1
  apply qN
  intro j
  rw [mi,mi,lL,lL,zhB hb]
  by_cases hj:j < n
  .rw [aE hj,aE hj]
   rcases hd with hd|hd
   .rw [aE (by omega)]
   .rw [az (by omega),az (by omega)]
  .rw [az hj,az hj]
 .cases hc
theorem cC.store {off:Nat} {val:ab} (lh:∀ x,(cell x).length=k) (f:cC k cell h1 u A v l) (hx:l[i]? = some x) (hs:dg T t=some n) (tc:off+n<=k) (hv:val.cells.toList=vs) (hl:vs.length=n) (bC:vs.all one=true) (hy:aB (cell x) off vs=cell y)
 (hK:∀ h',cC k cell h' u A v (l.set i y)->eG A (h1.lay bs w) h'->K undef h'):iv (iH T t (.pointer (some ⟨A,i*k+off,none⟩)) val (h1.lay bs w)) K:=by
 have hi:i < l.length:=(dP.1 hx).1
 rcases f with ⟨_,rfl⟩|⟨q,row,rfl,e2,e3,e4,e5,e6⟩
 .simp at hi
 have hb:i*k+off+n<=row.length:=by
  rw [e3]
  calc i*k+off+n<=i*k+k:=by omega
   _=(i+1)*k:=by rw [qx]
   _<=q*k:=qw _ (by omega)
 have hg:(h1.lay bs w).get A=some (.row row u false):=e2.lay bs w
 have hA:A < (h1.lay bs w).size:=(e2.on bs w).lt
 have dx:val.cells.size=n:=by rw [<- hl,<- hv];simp
 have he:iH T t (.pointer (some ⟨A,i*k+off,none⟩)) val (h1.lay bs w)=some ((h1.lay bs w).set A (.row (aB row (i*k+off) vs) u false)):=by
  unfold iH
  simp only [hs,dM]
  rw [aE dx,hv]
  unfold ki
  rw [hg]
  simp only
  rw [aE (by simp only [ep,jH];exact ⟨by omega,bC⟩)]
 rw [he]
 refine hK _ (.inr ⟨q,aB row (i*k+off) vs,by rw [nT],D3 hA,?_,by rw [nT];exact e4,e5,λj z hz=>?_⟩) (zu hA)
 .unfold aB;rw [dy,dy,gh,kP];omega
 .rw [sA] at hz
  by_cases dK:i=j
  .rw [aE dK,aE hi] at hz
   cases hz
   rw [<- dK,<- hy]
   exact ziY (e6 i x hx) (by omega)
  .rw [az dK] at hz
   refine zeP (e6 j z hz) (by omega) ?_
   rcases Nat.lt_or_gt_of_ne dK with h|h
   .right
    have:(i+1)*k<=j*k:=qw _ (by omega)
    rw [qx] at this
    omega
   .left
    have:(j+1)*k<=i*k:=qw _ (by omega)
    rw [qx] at this
    omega
theorem cC.qi {val:ab} (lh:∀ x,(cell x).length=k) (f:cC k cell h1 u A v l) (hx:l[i]? = some x) (hs:dg T t=some n) (tc:n<=k) (hv:val.cells.toList=vs) (hl:vs.length=n) (bC:vs.all one=true) (hy:aB (cell x) 0 vs=cell y)
 (hK:∀ h',cC k cell h' u A v (l.set i y)->eG A (h1.lay bs w) h'->K undef h'):iv (iH T t (.pointer (some ⟨A,i*k,none⟩)) val (h1.lay bs w)) K:=cC.store (off:=0) lh f hx hs (by omega) hv hl bC hy hK
theorem cC.nq {x:ab} {y:Z} (f:cC 1 cell h1 u A v l) (hx:l[i]? = some y) (hc:cell y=[x]) (bs:List ba) (w:Nat):J1 ((h1.lay bs w).get A) (i*1)=some x:=by
 obtain ⟨row,q,c⟩:=f.row hx
 rw [hc] at c
 have hg:=q.lay bs w
 rw [hg]
 unfold cut at c
 split at c
 .rename_i hle
  simp only [dO] at c
  show row[i*1]? = some x
  have:=congrArg (λl=>l[0]?) c
  simp only [mi,lL] at this
  simpa using this
 .cases c
theorem ziO {q:Nat} (hk:0 < k) (hq:q<=1000000000):(G*k+q) % G=q/\(G*k+q) / G=k/\G<=G*k+q:=by
 have hG:1000000000 < G:=by unfold G;omega
 refine ⟨?_,?_,?_⟩
 .rw [Nat.mul_add_mod,Eu (by omega)]
 .rw [Nat.mul_add_div (by omega),Nat.div_eq_of_lt (by omega),iU]
 .have:G*1<=G*k:=Nat.mul_le_mul_left _ hk
  omega
theorem cC.app {bytes j:Nat} {z:List ab} {u2:TypeId} {ro:Bool} {c:Nat} (lh:∀ x,(cell x).length=k) (bf:(cell x).all one=true) (hk:0 < k) (hd:T.desc t=some (.slice u)) (hi:T.info u=some (k,bytes,z)) (f:cC k cell h1 u A v l) (hg:bs[j]? = some (.row (cell x) u2 ro)) (hl:l.length < 900000000) (hb:(l.length+1)*bytes<=140737488355328)
 (hK:∀ v' h' A',cC k cell h' u A' v' (l++[x])->(A'=A/\A < h1.size\/A'=(h1.lay bs w).size)->(v=.slice none 0 0->Ext (h1.lay bs w) h')->(A < h1.size->eG A (h1.lay bs w) h')->K v' h') :
 dD (gC T t v (.slice (some ⟨h1.size+j,0,none⟩) 1 c) (h1.lay bs w)) K:=by
 have vo:(h1.lay bs w).get (h1.size+j)=some (.row (cell x) u2 ro):=by rw [iB];exact hg
 have BB:j < bs.length:=(dP.1 hg).1
 have hs:fw (.slice (some ⟨h1.size+j,0,none⟩) 1 c) k (h1.lay bs w)=some (1,cell x):=by
  unfold fw mg
  simp only [Nat.one_mul]
  rw [az (by omega)]
  unfold gD
  rw [vo]
  simp only
  unfold cut
  rw [aE (by rw [lh];omega),zM,gE (by rw [lh];exact bj _)]
  rfl
 have jW:∀ (h2:Heap) (row:List ab),row.length=(l.length+1)*k->(∀ (i:Nat) (y:Z),(l++[x])[i]? = some y->cut row (i*k) k=some (cell y)) ->
  cC k cell (h2.push (.row row u false)) u h2.size (.slice (some ⟨h2.size,0,none⟩) (l.length+1) (G*k+(l.length+1))) (l++[x]):=λh2 row e1 e2 =>
  .inr ⟨l.length+1,row,by rw [dy];rfl,⟨by rw [Heap.size_push];omega,by rw [Heap.bg,aE rfl]⟩,e1,by rw [dy];exact bj _,by omega,e2⟩
 rcases f with ⟨rfl,rfl⟩|⟨q,row,rfl,e2,e3,e4,e5,e6⟩
 .have key:=zvs hd hi hk hs (by omega) bf (by simpa using hb) (by omega)
  rw [key]
  refine hK _ _ _ (jW _ (cell x) (by rw [lh];simp) (λi y hy=>?_)) (.inr rfl) (λ_=>?_) (λhA=>?_)
  .cases i with
   |zero =>
    simp at hy
    subst hy
    unfold cut
    rw [aE (by rw [lh];omega),Nat.zero_mul,zM,gE (by rw [lh];exact bj _)]
   |succ i=>simp at hy
  .exact Ext.push _ _
  .exact (Ext.push _ _).iL
 .obtain ⟨c1,c2,c3⟩:=ziO (k:=k) (q:=q) hk e5
  have qB:(h1.lay bs w).get A=some (.row row u false):=e2.lay bs w
  have hA:A < (h1.lay bs w).size:=(e2.on bs w).lt
  unfold gC
  simp only [hd,hi,hs,dM]
  rw [az (by omega),az (by
   simp only [sB,jH,CO,not_or]
   refine ⟨⟨⟨by omega,by omega⟩,by omega⟩,by rw [bf];decide⟩),c1]
  by_cases hq:l.length+1<=q
  .rw [aE hq,aE (by simp [c2])]
   have qA:0+l.length*k+(cell x).length<=row.length:=by
    rw [e3,lh]
    have:(l.length+1)*k<=q*k:=qw _ hq
    rw [qx] at this
    omega
   have hw:ki A (0+l.length*k) (cell x) (h1.lay bs w)=some ((h1.lay bs w).set A (.row (aB row (0+l.length*k) (cell x)) u false)):=by
    unfold ki
    rw [qB]
    simp only
    rw [aE (by simp only [ep,jH];exact ⟨qA,bf⟩)]
   rw [hw]
   refine hK _ _ A (.inr ⟨q,aB row (0+l.length*k) (cell x),by rw [dy];rfl,D3 hA,?_,by rw [dy];exact hq,e5,λj z hz=>?_⟩) (.inl ⟨rfl,e2.lt⟩) (λh=>by cases h) (λ_=>zu hA)
   .unfold aB;rw [dy,dy,gh,kP];omega
   .rw [jo] at qA ⊢
    rw [xw] at hz
    by_cases hj:j < l.length
    .rw [aE hj] at hz
     refine zeP (e6 j z hz) qA (.inl ?_)
     have:(j+1)*k<=l.length*k:=qw _ hj
     rw [qx] at this
     exact this
    .rw [az hj] at hz
     have BB:j=l.length:=by
      have:=(dP.1 hz).1
      simp only [zK] at this
      omega
     subst BB
     rw [EF,AK] at hz
     cases hz
     unfold cut aB
     rw [aE (by rw [dy,dy,gh,kP,lh];rw [lh] at qA;omega),j7,QX,gh,zG (by rw [gh];omega),pE]
     rw [show l.length*k - min (l.length*k) row.length=0 by omega,zM,List.take_append_of_le_length (by rw [lh];exact bj _),gE (by rw [lh];exact bj _)]
  .rw [az hq]
   have vz:l.length=q:=by omega
   have hc:mg (.slice (some ⟨A,0,none⟩) l.length (G*k+q)) k (h1.lay bs w)=some row:=by
    unfold mg
    simp only
    by_cases h0:l.length*k=0
    .rw [aE h0]
     congr 1
     rw [vz,<- e3] at h0
     exact (xu.1 h0).symm
    .rw [az h0]
     unfold gD
     rw [qB]
     simp only
     unfold cut
     rw [aE (by rw [e3,vz];omega),zM,gE (by rw [e3,vz];exact bj _)]
   rw [hc]
   simp only [dM]
   rw [az (by omega)]
   simp only [qB]
   rw [aE (by simp [c2])]
   have iN:((h1.lay bs w).set A .dead).size=(h1.lay bs w).size:=Heap.size_set _ _ _
   have hn:=jW ((h1.lay bs w).set A .dead) (row++cell x) (by rw [dy,lh,e3,vz,qx]) (λi y hy=>by
    rw [xw] at hy
    by_cases hj:i < l.length
    .rw [aE hj] at hy
     exact zqD (e6 i y hy)
    .rw [az hj] at hy
     have BB:i=l.length:=by
      have:=(dP.1 hy).1
      simp only [zK] at this
      omega
     subst BB
     rw [EF,AK] at hy
     cases hy
     have:=zmA (a:=row) (b:=cell x) (o:=0) (n:=k) (c:=cell x) (by unfold cut;rw [aE (by rw [lh];omega),zM,gE (by rw [lh];exact bj _)])
     rw [iU,e3,<- vz] at this
     exact this)
   rw [iN] at hn
   exact hK _ _ _ hn (.inr rfl) (λh=>by cases h) (λ_=>((zu hA).trans (Ext.push _ _).iL))
theorem cC.pop {n:Nat} (hk:0 < k) (hd:T.desc t=some (.slice u)) (hs:dg T u=some k) (f:cC k cell h u A v l) (hn:n<=l.length) (aQ:l≠[]):∃ v',kV T t v none (some (.int kd (n:Nat))) none=some v'/\cC k cell h u A v' (l.take n):=by
 rcases f with ⟨_,rfl⟩|⟨q,row,rfl,e2,e3,e4,e5,e6⟩
 .exact absurd rfl aQ
 .obtain ⟨c1,c2,c3⟩:=ziO (k:=k) (q:=q) hk e5
  refine ⟨.slice (some ⟨A,0,none⟩) n (G*k+q),?_,.inr ⟨q,row,by rw [gh,Nat.min_eq_left hn],e2,e3,by rw [gh];omega,e5,λi x hx=>e6 i x ?_⟩⟩
  .unfold kV rF xm
   simp only [hd,hs,dM]
   rw [az (by omega)]
   simp only [c2,if_true,c1]
   rw [aE (by omega)]
   simp
  .rw [mi] at hx
   split at hx
   .exact hx
   .cases hx
end
end Go.Am
