/- Ranges over functions that turn three blocks: a map's, a box, the elements behind it. No condition. -/
import Derived.Test.YtjildadoepadeaaGreatDoorG20
import Derived.Test.YtjildadoepadeaaGreatDoorG21
set_option linter.unusedVariables false
namespace Go.Am
variable {L:Nat}
def dk (M X A:Nat) (h:Heap):Heap:=kill A (kill X (kill M h))
theorem AQ (M X A:Nat) (h:Heap):(dk M X A h).size=h.size:=by unfold dk;rw [AD,AD,AD]
theorem zzK (M X A:Nat) (h:Heap):dz (dk M X A h) h:=(ztV _ _).trans ((ztV _ _).trans (ztV _ _))
theorem zk {M X A C:Nat} {h:Heap} (h1:C≠A) (h2:C≠X) (h3:C≠M):(dk M X A h).get C=h.get C:=by
 unfold dk
 rw [F9 h1,F9 h2,F9 h3]
theorem N9 {M X A C:Nat} {h:Heap} (hC:C < h.size) (hd:C=A\/C=X\/C=M):(dk M X A h).get C=some .dead:=by
 unfold dk
 by_cases h1:C=A
 .subst h1
  exact HY (by rw [AD,AD];exact hC)
 rw [F9 h1]
 by_cases h2:C=X
 .subst h2
  exact HY (by rw [AD];exact hC)
 rw [F9 h2]
 have h3:C=M:=by rcases hd with h|h|h <;> first|exact absurd h h1|exact absurd h h2|exact h
 subst h3
 exact HY hC
theorem OD {M X A C:Nat} {h:Heap} (hC:C < h.size) (hd:(dk M X A h).get C≠some .dead):C≠A/\C≠X/\C≠M :=
 ⟨λe=>hd (N9 hC (.inl e)),λe=>hd (N9 hC (.inr (.inl e))),λe=>hd (N9 hC (.inr (.inr e)))⟩
structure Kn (M X:Nat) (B:Heap) (A:Nat) (h:Heap):Prop where
 m:M < h.size
 x:X < h.size
 lt:A < h.size
 inc:dz B (dk M X A h)
section
variable {M X A A' C:Nat} {B h h1 h2:Heap} {bs:List bd} {w:Nat} {b:bd}
theorem zzL {a d:Heap} (i:dz a d):dz (dk M X A a) (dk M X A d):=zzb (zzb (zzb i))
theorem Kn.all (k:Kn M X B A h1):dz B h1:=k.inc.trans (zzK _ _ _ _)
theorem Kn.mono (k:Kn M X B A h1) (i:dz h1 h2):Kn M X B A h2:=⟨eR k.m i.size,eR k.x i.size,eR k.lt i.size,k.inc.trans (zzL i)⟩
theorem Kn.over (k:Kn M X B A h1) (x:Ext (h1.lay bs w) h2):Kn M X B A h2:=k.mono ((dz.lay _ _ _).trans x.inc)
theorem Kn.lay (k:Kn M X B A h1) (bs:List bd) (w:Nat):Kn M X B A (h1.lay bs w):=k.mono (dz.lay _ _ _)
theorem Kn.trans (k:Kn M X B A h1) (k2:Kn M X (dk M X A h1) A' h2):Kn M X B A' h2:=⟨k2.m,k2.x,k2.lt,k.inc.trans k2.inc⟩
theorem Kn.holds (k:Kn M X B A h1) (q:Holds B C b) (hb:b≠.dead):Holds h1 C b/\C≠A/\C≠X/\C≠M:=by
 have hC:C < h1.size:=eR q.lt k.all.size
 have hg:=k.inc.get C q.lt (by rw [q.get];exact λe=>hb (Option.some.inj e))
 rw [q.get] at hg
 have aV:=OD hC (by rw [hg];exact λe=>hb (Option.some.inj e))
 exact ⟨⟨hC,by rw [<- hg,zk aV.1 aV.2.1 aV.2.2]⟩,aV⟩
theorem Holds.dk (q:Holds h1 C b) (hA:C≠A) (hX:C≠X) (hM:C≠M):Holds (dk M X A h1) C b:=⟨by rw [AQ];exact q.lt,by rw [zk hA hX hM];exact q.get⟩
theorem Kn.keep (k:Kn M X (Go.Am.dk M X A h1) A' h2) (q:Holds h1 C b) (hA:C≠A) (hX:C≠X) (hM:C≠M) (hb:b≠.dead):Holds h2 C b/\C≠A' :=
 have:=k.holds (q.dk hA hX hM) hb
 ⟨this.1,this.2.1⟩
theorem Kn.step (k:Kn M X B A h1) (c:gL A (h1.lay bs w) h2) (hA:A'=A\/h1.size<=A') (hl:A' < h2.size):Kn M X B A' h2:=by
 have hs:h1.size<=(h1.lay bs w).size:=by rw [cF];omega
 have iT:=c.size
 refine ⟨eR k.m (by omega),eR k.x (by omega),hl,⟨by rw [AQ];exact iG k.all.size (by omega),λC hC hd=>?_⟩⟩
 have h3:=k.inc.get C hC hd
 have hC1:C < h1.size:=eR hC k.all.size
 have aV:=OD hC1 (by rw [h3];exact hd)
 rw [zk aV.1 aV.2.1 aV.2.2] at h3
 rw [zk (by rcases hA with e|e <;> omega) aV.2.1 aV.2.2,c.get C (by omega) aV.1,uz _ _ _ hC1]
 exact h3
theorem Kn.round {h3:Heap} (c:gL L h h1) (k:Kn M X (Go.Am.dk M X A h1) A' h2) (c2:gL L h2 h3) (hb:h3.get L=h.get L) (hL:L≠A'/\L≠X/\L≠M):Kn M X (Go.Am.dk M X A h) A' h3:=by
 have hs:=c.size
 have iT:=c2.size
 have od:=k.all.size
 rw [AQ] at od
 refine ⟨eR k.m iT,eR k.x iT,eR k.lt iT,⟨by rw [AQ,AQ];omega,λD hD hd=>?_⟩⟩
 rw [AQ] at hD
 have aV:=OD hD hd
 rw [zk aV.1 aV.2.1 aV.2.2] at hd ⊢
 by_cases KO:D=L
 .subst KO
  rw [zk hL.1 hL.2.1 hL.2.2,hb]
 .have g1:=c.get D hD KO
  have g2:=k.inc.get D (by rw [AQ];omega) (by rw [zk aV.1 aV.2.1 aV.2.2,g1];exact hd)
  rw [zk aV.1 aV.2.1 aV.2.2,g1] at g2
  have xZ:=OD (h:=h2) (M:=M) (X:=X) (A:=A') (C:=D) (by omega) (by rw [g2];exact hd)
  rw [zk xZ.1 xZ.2.1 xZ.2.2] at g2 ⊢
  rw [c2.get D (by omega) KO,g2]
end
theorem Ow.low {Z:Type} {r:aQ Z} {h0 h1 h:Heap} {e A:Nat} {v:ai} {l:List Z} (hs:h0.size<=h1.size) (f:Ow r h1 h e A v l):Ow r h0 h e A v l:=by
 rcases f with ⟨e1,e2,e3⟩|⟨row,e1,e2,e3,e4⟩
 .refine .inl ⟨by omega,e2,?_⟩
  rcases e3 with e3|⟨B,o,g1,g2,g3⟩
  .exact .inl e3
  .exact .inr ⟨B,o,g1,by omega,g3⟩
 .exact .inr ⟨row,e1,e2,by omega,e4⟩
def Cp {Z:Type} (r:aQ Z) (h0 h:Heap) (e:TypeId) (v:ai) (l:List Z):Prop:=∃ A,Ow r h0 h e A v l
section
variable {Z:Type} {r:aQ Z} {h0 PN h h' h1 h2:Heap} {e:TypeId} {v:ai} {l:List Z}
theorem Cp.mono (f:Cp r h0 h e v l) (i:dz h h'):Cp r h0 h' e v l:=f.elim λA o=>⟨A,o.mono i⟩
theorem Cp.over {bs:List bd} {w:Nat} (f:Cp r h0 h1 e v l) (x:Ext (h1.lay bs w) h2):Cp r h0 h2 e v l:=f.elim λA o=>⟨A,o.over x⟩
theorem Cp.lay (f:Cp r h0 h e v l) (bs:List bd) (w:Nat):Cp r h0 (h.lay bs w) e v l:=f.mono (dz.lay _ _ _)
theorem Cp.low (hs:PN.size<=h0.size) (f:Cp r h0 h e v l):Cp r PN h e v l:=f.elim λA o=>⟨A,o.low hs⟩
theorem Cp.sl (f:Cp r h0 h e v l) (hk:0 < r.k):Sl r h v l:=f.elim λA o=>o.sl hk
theorem Cp.dk {M X A:Nat} (f:Cp r h0 h e v l) (hk:0 < r.k) (mh:∀ h h' cs x,r.R h cs x->r.R h' cs x) (hM:M < h0.size) (hX:X < h0.size) (hA:A < h0.size):Sl r (dk M X A h) v l :=
 f.elim λB o=>(((o.kill mh hM).kill mh hX).kill mh hA).sl hk
end
section
variable {P:Program} {T:bm} {ov:Ov} {M X:Nat} {h0:Heap} {J:List (List fE)->Nat->Heap->Prop} {fy:ai}
structure Sm (L:Nat) (h h':Heap):Prop where
 size:h.size<=h'.size
 get:∀ B,B < h.size->B≠L->h'.get B=h.get B
theorem gL.sm {h h':Heap} (c:gL L h h'):Sm L h h':=⟨c.size,c.get⟩
theorem Ext.sm {h h':Heap} (x:Ext h h') (L:Nat):Sm L h h':=⟨x.size,λB hB _=>x.get B hB⟩
theorem zxl (h:Heap) (bs:List bd) (w L:Nat):Sm L h (h.lay bs w):=⟨by rw [cF];omega,λB hB _=>uz h bs w hB⟩
theorem Holds.sm {C:Nat} {h h':Heap} {b:bd} (q:Holds h C b) (s:Sm L h h') (aV:C≠L):Holds h' C b:=⟨eR q.lt s.size,(s.get C q.lt aV).trans q.get⟩
structure U1 (N M X:Nat) (J:List (List fE)->Nat->Heap->Prop):Prop where
 m:M < N
 x:X < N
 lt:∀ {done A h},J done A h->M < h.size/\X < h.size/\A < h.size
 sm:∀ {done A h1 h2 L},J done A h1->Sm L h1 h2->N<=L->L≠A->J done A h2
theorem U1.lay {N:Nat} (s:U1 N M X J) {done:List (List fE)} {A:Nat} {h1:Heap} (j:J done A h1) (bs:List bd) (w:Nat):J done A (h1.lay bs w):=by
 have hl:=s.lt j
 exact s.sm (L:=N+h1.size) j (zxl _ _ _ _) (by omega) (by omega)
theorem U1.over {N:Nat} (s:U1 N M X J) {done:List (List fE)} {A w:Nat} {h1 h2:Heap} {bs:List bd} (j:J done A h1) (x:Ext (h1.lay bs w) h2):J done A h2:=by
 have hl:=s.lt j
 exact s.sm (L:=N+h1.size) (s.lay j bs w) (x.sm _) (by omega) (by omega)
structure JJ (N M X:Nat) (J:List (List fE)->Nat->Heap->Prop) (done:List (List fE)) (A:Nat) (h:Heap):Prop where
 st:U1 N M X J
 j:J done A h
theorem JJ.lay {N:Nat} {done:List (List fE)} {A:Nat} {h1:Heap} (f:JJ N M X J done A h1) (bs:List bd) (w:Nat):JJ N M X J done A (h1.lay bs w):=⟨f.st,f.st.lay f.j bs w⟩
theorem JJ.over {N:Nat} {done:List (List fE)} {A w:Nat} {h1 h2:Heap} {bs:List bd} (f:JJ N M X J done A h1) (x:Ext (h1.lay bs w) h2):JJ N M X J done A h2:=⟨f.st,f.st.over f.j x⟩
end
theorem Ow.sm {Z:Type} {r:aQ Z} {h0 h h':Heap} {e:TypeId} {A:Nat} {v:ai} {l:List Z} (mh:∀ h h' cs x,r.R h cs x->r.R h' cs x) (f:Ow r h0 h e A v l) (c:Sm L h h') (hL:L≠A) (hn:l=[]->∀ B o x n c,v=.slice (some ⟨B,o,x⟩) n c->B≠L):Ow r h0 h' e A v l:=by
 rcases f with ⟨e1,e2,e3⟩|⟨row,e1,e2,e3,e4,e5,e6,e7,e8⟩
 .refine .inl ⟨e1,e2,?_⟩
  rcases e3 with e3|⟨B,o,g1,g2,g3,row,u,ro,g4⟩
  .exact .inl e3
  .exact .inr ⟨B,o,g1,g2,eR g3 c.size,row,u,ro,by rw [c.get B g3 (hn e2 _ _ _ _ _ g1)];exact g4⟩
 .refine .inr ⟨row,e1,e2,e3,eR e4 c.size,by rw [c.get A e4 (Ne.symm hL)];exact e5,e6,e7,λi x hx=>?_⟩
  obtain ⟨cs,g1,g2⟩:=e8 i x hx
  exact ⟨cs,g1,mh _ _ _ _ g2⟩
theorem ey.sm {κ:Type} {kv:κ->ai} {h h':Heap} {A L:Nat} {met:List κ} (m:ey kv h A met) (c:Sm L h h') (aV:A≠L):ey kv h' A met:=by
 obtain ⟨es,cl,ks,m1,m2,m3⟩:=m
 exact ⟨es,cl,ks,m1.sm c aV,m2,m3⟩
structure RJ (hb:Heap) (N:Nat) (u1 u2:TypeId) (M X:Nat) (facts heads:cR) (A:Nat) (h:Heap):Prop where
 lt:M < h.size/\X < h.size/\A < h.size
 map:∃ met,ey ae.val h M met/\∀ a,a∈met↔a∈heads
 out:∃ (v:ai) (out:cR),Holds h X (.row [v] u1 false)/\(∀ a,a∈out↔a∈facts\/a∈heads)/\out.length<=facts.length+heads.length/\Ow aQ.atom hb h u2 A v out/\(out≠[]->A≠X/\A≠M)/\(out=[]->A=X/\∀ B o x n c,v=.slice (some ⟨B,o,x⟩) n c->B < N)
theorem RJ.sm {hb h1 h2:Heap} {N M X A L:Nat} {u1 u2:TypeId} {facts heads:cR} (f:RJ hb N u1 u2 M X facts heads A h1) (hM:M < N) (hX:X < N) (c:Sm L h1 h2) (hN:N<=L) (hL:L≠A):RJ hb N u1 u2 M X facts heads A h2:=by
 obtain ⟨⟨f1,f2,f3⟩,⟨met,m1,m2⟩,v,out,o1,o2,o3,o4,o5,o6⟩:=f
 have hs:=c.size
 exact ⟨by omega,⟨met,m1.sm c (by omega),m2⟩,v,out,o1.sm c (by omega),o2,o3,o4.sm (λ_ _ _ _ h=>h) c hL (λe B o x n c hv=>by have:=(o6 e).2 B o x n c hv;omega),o5,o6⟩
theorem RJ.over {hb h1 h2:Heap} {N M X A w:Nat} {u1 u2:TypeId} {bs:List bd} {facts heads:cR} (f:RJ hb N u1 u2 M X facts heads A h1) (x:Ext (h1.lay bs w) h2):RJ hb N u1 u2 M X facts heads A h2:=by
 obtain ⟨⟨f1,f2,f3⟩,⟨met,m1,m2⟩,v,out,o1,o2,o3,o4,o5⟩:=f
 have hs:=x.size
 rw [cF] at hs
 exact ⟨by omega,⟨met,m1.over x,m2⟩,v,out,o1.over x,o2,o3,o4.over x,o5⟩
theorem RJ.lay {hb h1:Heap} {N M X A:Nat} {u1 u2:TypeId} {facts heads:cR} (f:RJ hb N u1 u2 M X facts heads A h1) (bs:List bd) (w:Nat):RJ hb N u1 u2 M X facts heads A (h1.lay bs w):=f.over (Ext.refl _)
end Go.Am
