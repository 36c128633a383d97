/- What goals need: the least closed list. No condition. -/
import Derived.Test.YtnkmeidmdaidhaaGreatDoorG27
set_option linter.unusedSimpArgs false
set_option linter.unusedVariables false
namespace Go.Am
variable {l:List aV} {x:ae} {goals out todo:aU}
def yh (l:List aV) (a:ae):aU:=match l.find? (λr=>r.atom == a) with
 |some r=>r.body
 |none=>[]
structure pU (l:List aV) (goals out:aU):Prop where
 oM:jB out
 plain:sA out
 tn:∀ g∈goals,g∈out
 closed:∀ x∈out,∀ b∈yh l x,b∈out
 least:∀ S:ae->Prop,(∀ g∈goals,S g)->(∀ x,S x->∀ b∈yh l x,S b)->∀ x∈out,S x
theorem pU.eq {g o1 o2:aU} (f:pU l g o1) (h:pU l g o2):o1=o2 :=
 UP f.oM h.oM (λx=>⟨λhx=>f.least (·∈o2) h.tn h.closed x hx,λhx=>h.least (·∈o1) f.tn f.closed x hx⟩)
theorem pU.none {o:aU} (f:pU l [] o):o=[]:=by
 cases o with
 |nil=>rfl
 |cons x o=>exact (f.least (λ_=>False) (λg hg=>by cases hg) (λ_ h=>h.elim) x (pO ..)).elim
def yg (l:List aV):aU:=l.flatMap (·.body)
theorem zsa {a b:ae} (h:b∈yh l a):b∈yg l:=by
 unfold yh at h
 split at h
 .rename_i r hr
  exact List.mem_flatMap.2 ⟨r,List.mem_of_find?_eq_some hr,h⟩
 .cases h
structure KF (l:List aV) (goals out todo:aU):Prop where
 oM:jB out
 plain:sA out
 tn:∀ g∈goals,g∈out
 closed:∀ x∈out,x∈todo\/∀ b∈yh l x,b∈out
 HF:∀ x∈todo,x∈out
 least:∀ S:ae->Prop,(∀ g∈goals,S g)->(∀ x,S x->∀ b∈yh l x,S b)->∀ x∈out,S x
structure pT (l:List aV) (goals out todo:aU) (x:ae) (j:Nat):Prop where
 oM:jB out
 plain:sA out
 tn:∀ g∈goals,g∈out
 closed:∀ y∈out,y∈todo\/y=x\/∀ b∈yh l y,b∈out
 HF:∀ y∈todo,y∈out
 here:x∈out
 done:∀ b∈(yh l x).take j,b∈out
 least:∀ S:ae->Prop,(∀ g∈goals,S g)->(∀ x,S x->∀ b∈yh l x,S b)->∀ x∈out,S x
theorem KF.enter (f:KF l goals out (x::todo)):pT l goals out todo x 0 :=
 ⟨f.oM,f.plain,f.tn,λy hy=>by
  rcases f.closed y hy with h|h
  .rcases dg.1 h with h|h
   .exact .inr (.inl h)
   .exact .inl h
  .exact .inr (.inr h),λy hy=>f.HF y (sn _ hy),f.HF x (pO ..),by simp,f.least⟩
theorem pT.add {a:ae} {j:Nat} (f:pT l goals out todo x j) (ha:(yh l x)[j]? = some a) (hp:my a):pT l goals (iz a out) (todo++[a]) x (j+1):=by
 have ni:∀ y,y∈iz a out↔y∈out\/y=a:=λy=>by
  rw [Ew f.oM]
  constructor
  .rintro (h|⟨rfl,_⟩)
   .exact .inl h
   .exact .inr rfl
  .rintro (h|rfl)
   .exact .inl h
   .by_cases hy:y∈out
    .exact .inl hy
    .refine .inr ⟨rfl,λz hz e=>hy ?_⟩
     rw [(zBM hp (f.plain z hz)).1 e]
     exact hz
 have eD:a∈yh l x:=fV ha
 refine ⟨zqG f.oM,λy hy=>?_,λg hg=>(ni g).2 (.inl (f.tn g hg)),λy hy=>?_,λy hy=>?_,(ni x).2 (.inl f.here),λb hb=>?_,λS h1 h2 y hy=>?_⟩
 .rcases (ni y).1 hy with h|rfl
  .exact f.plain y h
  .exact hp
 .rcases (ni y).1 hy with h|rfl
  .rcases f.closed y h with h|h|h
   .exact .inl (List.mem_append_left _ h)
   .exact .inr (.inl h)
   .exact .inr (.inr (λb hb=>(ni b).2 (.inl (h b hb))))
  .exact .inl (zBJ _ (pO ..))
 .rcases ju.1 hy with h|h
  .exact (ni y).2 (.inl (f.HF y h))
  .have:y=a:=by simpa using h
   exact (ni y).2 (.inr this)
 .rw [od,ha] at hb
  rcases ju.1 hb with hb|hb
  .exact (ni b).2 (.inl (f.done b hb))
  .have:b=a:=by simpa using hb
   exact (ni b).2 (.inr this)
 .rcases (ni y).1 hy with h|rfl
  .exact f.least S h1 h2 y h
  .exact h2 x (f.least S h1 h2 x f.here) y eD
theorem pT.len {j:Nat} (f:pT l goals out todo x j) (hp:sA (goals++yg l)):out.length<=goals.length+(yg l).length:=by
 have h1:∀ y∈out,y∈goals++yg l:=f.least (·∈goals++yg l) (λg hg=>List.mem_append_left _ hg) (λy _ b hb=>zBJ _ (zsa hb))
 have h2:∀ y,y∈out->y∈j8 (goals++yg l):=λy hy=>(zu9 hp).2 (h1 y hy)
 have h3:=LQ (goals++yg l)
 have h4:out.length<=(j8 (goals++yg l)).length:=by
  have e:out=(j8 (goals++yg l)).filter (λx=>decide (x∈out)):=UP f.oM (zr2 _ (JM _).oM) (λy=>by
   rw [List.mem_filter,decide_eq_true_iff]
   exact ⟨λhy=>⟨h2 y hy,hy⟩,λhy=>hy.2⟩)
  rw [e]
  exact List.length_filter_le _ _
 rw [dx] at h3
 omega
end Go.Am
namespace Go.Am
def Ak (h0 h:Heap) (u:TypeId) (v:ai) (s:aU):Prop :=
 (s=[]/\oI h v)\/∃ A o full,v=.slice (some ⟨A,o*11,none⟩) s.length (G*11+s.length)/\ak h A (.row (bl full) u false)/\h0.size<=A/\full.drop o=s/\o<=full.length/\full.length<=100000
theorem Ak.mono {h0 h h':Heap} {u:TypeId} {v:ai} {s:aU} (f:Ak h0 h u v s) (i:bQ h h'):Ak h0 h' u v s:=by
 rcases f with ⟨e,f⟩|⟨A,o,full,e1,e2,e3⟩
 .exact .inl ⟨e,f.mono i⟩
 .exact .inr ⟨A,o,full,e1,e2.mono i,e3⟩
theorem Ak.over {h0 h1 h2:Heap} {u:TypeId} {v:ai} {s:aU} {bs:List bc} {w:Nat} (f:Ak h0 h1 u v s) (x:Ext (h1.lay bs w) h2):Ak h0 h2 u v s:=f.mono ((bQ.lay _ _ _).trans x.inc)
theorem Ak.down {h0 h1 h:Heap} {u:TypeId} {v:ai} {s:aU} (f:Ak h1 h u v s) (i:h0.size<=h1.size):Ak h0 h u v s:=by
 rcases f with f|⟨A,o,full,e1,e2,e3,e4⟩
 .exact .inl f
 .exact .inr ⟨A,o,full,e1,e2,by omega,e4⟩
theorem Ak.sl {h0 h:Heap} {u:TypeId} {v:ai} {s:aU} (f:Ak h0 h u v s):Sl aF.atom h v s:=by
 rcases f with ⟨rfl,f⟩|⟨A,o,full,rfl,e2,e3,e4,e5,e6⟩
 .exact f.sl
 .have hG:=Vb
  have hs:s.length<=100000:=by rw [<- e4,oe];omega
  obtain ⟨d1,d2,d3⟩:=Mr (k:=11) (q:=s.length) (by decide) (by omega)
  exact zAD (o:=o) e2 (.inr ⟨d1,d2,by rw [d3];exact aS _⟩) hs (λi x hx=>by rw [<- e4,ka] at hx;exact hx)
end Go.Am
namespace Go.Am
section
variable {P:Program} {T:bx} {ov:Ov} {rd:Option Nat}
end
end Go.Am
namespace Go.Am
variable {L:Nat}
def dk (M X A:Nat) (h:Heap):Heap:=kill A (kill X (kill M h))
theorem EI (M X A:Nat) (h:Heap):(dk M X A h).size=h.size:=by unfold dk;rw [yd,yd,yd]
theorem zBO (M X A:Nat) (h:Heap):bQ (dk M X A h) h:=(zq5 _ _).trans ((zq5 _ _).trans (zq5 _ _))
theorem C5 {M X A C:Nat} {h:Heap} (h1:C≠A) (h2:C≠X) (h3:C≠M):(dk M X A h).get C=h.get C:=by
 unfold dk
 rw [CU h1,CU h2,CU h3]
theorem UJ {M X A C:Nat} {h:Heap} (hC:C < h.size) (hd:C=A\/C=X\/C=M):(dk M X A h).get C=some .dead:=by
 unfold dk
 by_cases h1:C=A
 .subst h1
  exact JA (by rw [yd,yd];exact hC)
 rw [CU h1]
 by_cases h2:C=X
 .subst h2
  exact JA (by rw [yd];exact hC)
 rw [CU h2]
 have h3:C=M:=by rcases hd with h|h|h <;> first|exact absurd h h1|exact absurd h h2|exact h
 subst h3
 exact JA hC
theorem U9 {M X A C:Nat} {h:Heap} (hC:C < h.size) (hd:(dk M X A h).get C≠some .dead):C≠A/\C≠X/\C≠M :=
 ⟨λe=>hd (UJ hC (.inl e)),λe=>hd (UJ hC (.inr (.inl e))),λe=>hd (UJ hC (.inr (.inr e)))⟩
structure Kn (M X:Nat) (B:Heap) (A:Nat) (h:Heap):Prop where
 m:M < h.size
 x:X < h.size
 lt:A < h.size
 inc:bQ B (dk M X A h)
section
variable {M X A A' C:Nat} {B h h1 h2:Heap} {bs:List bc} {w:Nat} {b:bc}
theorem zBP {a d:Heap} (i:bQ a d):bQ (dk M X A a) (dk M X A d):=Kg (Kg (Kg i))
theorem Kn.all (k:Kn M X B A h1):bQ B h1:=k.inc.trans (zBO _ _ _ _)
theorem Kn.mono (k:Kn M X B A h1) (i:bQ h1 h2):Kn M X B A h2:=⟨dU k.m i.size,dU k.x i.size,dU k.lt i.size,k.inc.trans (zBP i)⟩
theorem Kn.over (k:Kn M X B A h1) (x:Ext (h1.lay bs w) h2):Kn M X B A h2:=k.mono ((bQ.lay _ _ _).trans x.inc)
theorem Kn.lay (k:Kn M X B A h1) (bs:List bc) (w:Nat):Kn M X B A (h1.lay bs w):=k.mono (bQ.lay _ _ _)
theorem Kn.trans (k:Kn M X B A h1) (k2:Kn M X (dk M X A h1) A' h2):Kn M X B A' h2:=⟨k2.m,k2.x,k2.lt,k.inc.trans k2.inc⟩
theorem Kn.holds (k:Kn M X B A h1) (q:ak B C b) (hb:b≠.dead):ak h1 C b/\C≠A/\C≠X/\C≠M:=by
 have hC:C < h1.size:=dU q.lt k.all.size
 have hg:=k.inc.get C q.lt (by rw [q.get];exact λe=>hb (Option.some.inj e))
 rw [q.get] at hg
 have aO:=U9 hC (by rw [hg];exact λe=>hb (Option.some.inj e))
 exact ⟨⟨hC,by rw [<- hg,C5 aO.1 aO.2.1 aO.2.2]⟩,aO⟩
theorem ak.dk (q:ak h1 C b) (hA:C≠A) (hX:C≠X) (hM:C≠M):ak (dk M X A h1) C b:=⟨by rw [EI];exact q.lt,by rw [C5 hA hX hM];exact q.get⟩
theorem Kn.ft (k:Kn M X (Go.Am.dk M X A h1) A' h2) (q:ak h1 C b) (hA:C≠A) (hX:C≠X) (hM:C≠M) (hb:b≠.dead):ak h2 C b/\C≠A' :=
 have:=k.holds (q.dk hA hX hM) hb
 ⟨this.1,this.2.1⟩
theorem Kn.step (k:Kn M X B A h1) (c:fW A (h1.lay bs w) h2) (hA:A'=A\/h1.size<=A') (hl:A' < h2.size):Kn M X B A' h2:=by
 have hs:h1.size<=(h1.lay bs w).size:=by rw [bo];omega
 have eX:=c.size
 refine ⟨dU k.m (by omega),dU k.x (by omega),hl,⟨by rw [EI];exact dZ k.all.size (by omega),λC hC hd=>?_⟩⟩
 have h3:=k.inc.get C hC hd
 have hC1:C < h1.size:=dU hC k.all.size
 have aO:=U9 hC1 (by rw [h3];exact hd)
 rw [C5 aO.1 aO.2.1 aO.2.2] at h3
 rw [C5 (by rcases hA with e|e <;> omega) aO.2.1 aO.2.2,c.get C (by omega) aO.1,xW _ _ _ hC1]
 exact h3
theorem Kn.round {h3:Heap} (c:fW L h h1) (k:Kn M X (Go.Am.dk M X A h1) A' h2) (c2:fW L h2 h3) (hb:h3.get L=h.get L) (hL:L≠A'/\L≠X/\L≠M):Kn M X (Go.Am.dk M X A h) A' h3:=by
 have hs:=c.size
 have eX:=c2.size
 have ou:=k.all.size
 rw [EI] at ou
 refine ⟨dU k.m eX,dU k.x eX,dU k.lt eX,⟨by rw [EI,EI];omega,λD hD hd=>?_⟩⟩
 rw [EI] at hD
 have aO:=U9 hD hd
 rw [C5 aO.1 aO.2.1 aO.2.2] at hd ⊢
 by_cases PT:D=L
 .subst PT
  rw [C5 hL.1 hL.2.1 hL.2.2,hb]
 .have g1:=c.get D hD PT
  have g2:=k.inc.get D (by rw [EI];omega) (by rw [C5 aO.1 aO.2.1 aO.2.2,g1];exact hd)
  rw [C5 aO.1 aO.2.1 aO.2.2,g1] at g2
  have qY:=U9 (h:=h2) (M:=M) (X:=X) (A:=A') (C:=D) (by omega) (by rw [g2];exact hd)
  rw [C5 qY.1 qY.2.1 qY.2.2] at g2 ⊢
  rw [c2.get D (by omega) PT,g2]
end
theorem Ow.low {Z:Type} {r:aF Z} {h0 h1 h:Heap} {e A:Nat} {v:ai} {l:List Z} (hs:h0.size<=h1.size) (f:Ow r h1 h e A v l):Ow r h0 h e A v l:=by
 rcases f with ⟨e1,e2,e3⟩|⟨row,e1,e2,e3,e4⟩
 .refine .inl ⟨by omega,e2,?_⟩
  rcases e3 with e3|⟨B,o,g1,g2,g3⟩
  .exact .inl e3
  .exact .inr ⟨B,o,g1,by omega,g3⟩
 .exact .inr ⟨row,e1,e2,by omega,e4⟩
def iD {Z:Type} (r:aF Z) (h0 h:Heap) (e:TypeId) (v:ai) (l:List Z):Prop:=∃ A,Ow r h0 h e A v l
section
variable {Z:Type} {r:aF Z} {h0 h0' h h' h1 h2:Heap} {e:TypeId} {v:ai} {l:List Z}
theorem iD.mono (f:iD r h0 h e v l) (i:bQ h h'):iD r h0 h' e v l:=f.elim λA o=>⟨A,o.mono i⟩
theorem iD.over {bs:List bc} {w:Nat} (f:iD r h0 h1 e v l) (x:Ext (h1.lay bs w) h2):iD r h0 h2 e v l:=f.elim λA o=>⟨A,o.over x⟩
theorem iD.lay (f:iD r h0 h e v l) (bs:List bc) (w:Nat):iD r h0 (h.lay bs w) e v l:=f.mono (bQ.lay _ _ _)
theorem iD.low (hs:h0'.size<=h0.size) (f:iD r h0 h e v l):iD r h0' h e v l:=f.elim λA o=>⟨A,o.low hs⟩
theorem iD.sl (f:iD r h0 h e v l) (hk:0 < r.k):Sl r h v l:=f.elim λA o=>o.sl hk
theorem iD.dk {M X A:Nat} (f:iD r h0 h e v l) (hk:0 < r.k) (dF:∀ h h' cs x,r.R h cs x->r.R h' cs x) (hM:M < h0.size) (hX:X < h0.size) (hA:A < h0.size):Sl r (dk M X A h) v l :=
 f.elim λB o=>(((o.kill dF hM).kill dF hX).kill dF hA).sl hk
end
section
variable {P:Program} {T:bx} {ov:Ov} {M X:Nat} {h0:Heap} {J:List (List av)->Nat->Heap->Prop} {fy:ai}
structure Sm (L:Nat) (h h':Heap):Prop where
 size:h.size<=h'.size
 get:∀ B,B < h.size->B≠L->h'.get B=h.get B
theorem fW.sm {h h':Heap} (c:fW L h h'):Sm L h h':=⟨c.size,c.get⟩
theorem Ext.sm {h h':Heap} (x:Ext h h') (L:Nat):Sm L h h':=⟨x.size,λB hB _=>x.get B hB⟩
theorem zBQ (h:Heap) (bs:List bc) (w L:Nat):Sm L h (h.lay bs w):=⟨by rw [bo];omega,λB hB _=>xW h bs w hB⟩
theorem ak.sm {C:Nat} {h h':Heap} {b:bc} (q:ak h C b) (s:Sm L h h') (aO:C≠L):ak h' C b:=⟨dU q.lt s.size,(s.get C q.lt aO).trans q.get⟩
structure Stb (N M X:Nat) (J:List (List av)->Nat->Heap->Prop):Prop where
 m:M < N
 x:X < N
 lt:∀ {done A h},J done A h->M < h.size/\X < h.size/\A < h.size
 sm:∀ {done A h1 h2 L},J done A h1->Sm L h1 h2->N<=L->L≠A->J done A h2
theorem Stb.lay {N:Nat} (s:Stb N M X J) {done:List (List av)} {A:Nat} {h1:Heap} (j:J done A h1) (bs:List bc) (w:Nat):J done A (h1.lay bs w):=by
 have hl:=s.lt j
 exact s.sm (L:=N+h1.size) j (zBQ _ _ _ _) (by omega) (by omega)
theorem Stb.over {N:Nat} (s:Stb N M X J) {done:List (List av)} {A w:Nat} {h1 h2:Heap} {bs:List bc} (j:J done A h1) (x:Ext (h1.lay bs w) h2):J done A h2:=by
 have hl:=s.lt j
 exact s.sm (L:=N+h1.size) (s.lay j bs w) (x.sm _) (by omega) (by omega)
structure JJ (N M X:Nat) (J:List (List av)->Nat->Heap->Prop) (done:List (List av)) (A:Nat) (h:Heap):Prop where
 st:Stb N M X J
 j:J done A h
theorem JJ.lay {N:Nat} {done:List (List av)} {A:Nat} {h1:Heap} (f:JJ N M X J done A h1) (bs:List bc) (w:Nat):JJ N M X J done A (h1.lay bs w):=⟨f.st,f.st.lay f.j bs w⟩
theorem JJ.over {N:Nat} {done:List (List av)} {A w:Nat} {h1 h2:Heap} {bs:List bc} (f:JJ N M X J done A h1) (x:Ext (h1.lay bs w) h2):JJ N M X J done A h2:=⟨f.st,f.st.over f.j x⟩
end
theorem Ow.sm {Z:Type} {r:aF Z} {h0 h h':Heap} {e:TypeId} {A:Nat} {v:ai} {l:List Z} (dF:∀ h h' cs x,r.R h cs x->r.R h' cs x) (f:Ow r h0 h e A v l) (c:Sm L h h') (hL:L≠A) (hn:l=[]->∀ B o x n c,v=.slice (some ⟨B,o,x⟩) n c->B≠L):Ow r h0 h' e A v l:=by
 rcases f with ⟨e1,e2,e3⟩|⟨row,e1,e2,e3,e4,e5,e6,e7,e8⟩
 .refine .inl ⟨e1,e2,?_⟩
  rcases e3 with e3|⟨B,o,g1,g2,g3,row,u,ro,g4⟩
  .exact .inl e3
  .exact .inr ⟨B,o,g1,g2,dU g3 c.size,row,u,ro,by rw [c.get B g3 (hn e2 _ _ _ _ _ g1)];exact g4⟩
 .refine .inr ⟨row,e1,e2,e3,dU e4 c.size,by rw [c.get A e4 (Ne.symm hL)];exact e5,e6,e7,λi x hx=>?_⟩
  obtain ⟨cs,g1,g2⟩:=e8 i x hx
  exact ⟨cs,g1,dF _ _ _ _ g2⟩
theorem ea.sm {κ:Type} {kv:κ->ai} {h h':Heap} {A L:Nat} {met:List κ} (m:ea kv h A met) (c:Sm L h h') (aO:A≠L):ea kv h' A met:=by
 obtain ⟨es,cl,ks,m1,m2,m3⟩:=m
 exact ⟨es,cl,ks,m1.sm c aO,m2,m3⟩
structure RJ (hb:Heap) (N:Nat) (u1 u2:TypeId) (M X:Nat) (facts heads:aU) (A:Nat) (h:Heap):Prop where
 lt:M < h.size/\X < h.size/\A < h.size
 map:∃ met,ea ae.val h M met/\∀ a,a∈met↔a∈heads
 out:∃ (v:ai) (out:aU),ak h X (.row [v] u1 false)/\(∀ a,a∈out↔a∈facts\/a∈heads)/\out.length<=facts.length+heads.length/\Ow aF.atom hb h u2 A v out/\(out≠[]->A≠X/\A≠M)/\(out=[]->A=X/\∀ B o x n c,v=.slice (some ⟨B,o,x⟩) n c->B < N)
theorem RJ.sm {hb h1 h2:Heap} {N M X A L:Nat} {u1 u2:TypeId} {facts heads:aU} (f:RJ hb N u1 u2 M X facts heads A h1) (hM:M < N) (hX:X < N) (c:Sm L h1 h2) (hN:N<=L) (hL:L≠A):RJ hb N u1 u2 M X facts heads A h2:=by
 obtain ⟨⟨f1,f2,f3⟩,⟨met,m1,m2⟩,v,out,o1,o2,o3,o4,o5,o6⟩:=f
 have hs:=c.size
 exact ⟨by omega,⟨met,m1.sm c (by omega),m2⟩,v,out,o1.sm c (by omega),o2,o3,o4.sm (λ_ _ _ _ h=>h) c hL (λe B o x n c hv=>by have:=(o6 e).2 B o x n c hv;omega),o5,o6⟩
theorem RJ.over {hb h1 h2:Heap} {N M X A w:Nat} {u1 u2:TypeId} {bs:List bc} {facts heads:aU} (f:RJ hb N u1 u2 M X facts heads A h1) (x:Ext (h1.lay bs w) h2):RJ hb N u1 u2 M X facts heads A h2:=by
 obtain ⟨⟨f1,f2,f3⟩,⟨met,m1,m2⟩,v,out,o1,o2,o3,o4,o5⟩:=f
 have hs:=x.size
 rw [bo] at hs
 exact ⟨by omega,⟨met,m1.over x,m2⟩,v,out,o1.over x,o2,o3,o4.over x,o5⟩
theorem RJ.lay {hb h1:Heap} {N M X A:Nat} {u1 u2:TypeId} {facts heads:aU} (f:RJ hb N u1 u2 M X facts heads A h1) (bs:List bc) (w:Nat):RJ hb N u1 u2 M X facts heads A (h1.lay bs w):=f.over (Ext.refl _)
end Go.Am
