/- What goals need: the least closed list. No condition. -/
import Derived.Test.YtnkmeidmdaidhaaGreatDoorG27
set_option linter.unusedSimpArgs false
set_option linter.unusedVariables false
namespace Go.Am
variable {l:List ba} {goals out todo:aN} {x:ae}
def w9 (l:List ba) (a:ae):aN:=match l.find? (λr=>r.atom == a) with
 |some r=>r.body
 |none=>[]
structure jO (l:List ba) (goals out:aN):Prop where
 lu:gI out
 plain:i6 out
 kl:∀ g∈goals,g∈out
 closed:∀ x∈out,∀ b∈w9 l x,b∈out
 least:∀ S:ae->Prop,(∀ g∈goals,S g)->(∀ x,S x->∀ b∈w9 l x,S b)->∀ x∈out,S x
theorem jO.eq {g o1 o2:aN} (f:jO l g o1) (h:jO l g o2):o1=o2 :=
 L8 f.lu h.lu (λx=>⟨λhx=>f.least (·∈o2) h.kl h.closed x hx,λhx=>h.least (·∈o1) f.kl f.closed x hx⟩)
theorem jO.none {o:aN} (f:jO l [] o):o=[]:=by
 cases o with
 |nil=>rfl
 |cons x o=>exact (f.least (λ_=>False) (λg hg=>by cases hg) (λ_ h=>h.elim) x (nU ..)).elim
def Ab (l:List ba):aN:=l.flatMap (·.body)
theorem zs9 {a b:ae} (h:b∈w9 l a):b∈Ab l:=by
 unfold w9 at h
 split at h
 .rename_i r hr
  exact G4.2 ⟨r,List.mem_of_find?_eq_some hr,h⟩
 .cases h
structure lp (l:List ba) (goals out todo:aN):Prop where
 lu:gI out
 plain:i6 out
 kl:∀ g∈goals,g∈out
 closed:∀ x∈out,x∈todo\/∀ b∈w9 l x,b∈out
 r7:∀ x∈todo,x∈out
 least:∀ S:ae->Prop,(∀ g∈goals,S g)->(∀ x,S x->∀ b∈w9 l x,S b)->∀ x∈out,S x
theorem lp.start (h:i6 goals):lp l goals (dY goals) (dY goals) :=
 ⟨(xT goals).lu,h.sort,λg hg=>(uj h).2 hg,λx hx=>.inl hx,λx hx=>hx,λS h1 _ x hx=>h1 x ((uj h).1 hx)⟩
structure iU (l:List ba) (goals out todo:aN) (x:ae) (j:Nat):Prop where
 lu:gI out
 plain:i6 out
 kl:∀ g∈goals,g∈out
 closed:∀ y∈out,y∈todo\/y=x\/∀ b∈w9 l y,b∈out
 r7:∀ y∈todo,y∈out
 here:x∈out
 done:∀ b∈(w9 l x).take j,b∈out
 least:∀ S:ae->Prop,(∀ g∈goals,S g)->(∀ x,S x->∀ b∈w9 l x,S b)->∀ x∈out,S x
theorem lp.enter (f:lp l goals out (x::todo)):iU l goals out todo x 0 :=
 ⟨f.lu,f.plain,f.kl,λy hy=>by
  rcases f.closed y hy with h|h
  .rcases db.1 h with h|h
   .exact .inr (.inl h)
   .exact .inl h
  .exact .inr (.inr h),λy hy=>f.r7 y (rN _ hy),f.r7 x (nU ..),by simp,f.least⟩
theorem iU.add {a:ae} {j:Nat} (f:iU l goals out todo x j) (ha:(w9 l x)[j]? = some a) (hp:gK a):iU l goals (iH a out) (todo++[a]) x (j+1):=by
 have jU:∀ y,y∈iH a out↔y∈out\/y=a:=λy=>by
  rw [EJ f.lu]
  constructor
  .rintro (h|⟨rfl,_⟩)
   .exact .inl h
   .exact .inr rfl
  .rintro (h|rfl)
   .exact .inl h
   .by_cases hy:y∈out
    .exact .inl hy
    .refine .inr ⟨rfl,λz hz e=>hy ?_⟩
     rw [(zwz hp (f.plain z hz)).1 e]
     exact hz
 have eL:a∈w9 l x:=ek ha
 refine ⟨Wt f.lu,λy hy=>?_,λg hg=>(jU g).2 (.inl (f.kl g hg)),λy hy=>?_,λy hy=>?_,(jU x).2 (.inl f.here),λb hb=>?_,λS h1 h2 y hy=>?_⟩
 .rcases (jU y).1 hy with h|rfl
  .exact f.plain y h
  .exact hp
 .rcases (jU y).1 hy with h|rfl
  .rcases f.closed y h with h|h|h
   .exact .inl (yg _ h)
   .exact .inr (.inl h)
   .exact .inr (.inr (λb hb=>(jU b).2 (.inl (h b hb))))
  .exact .inl (L3 _ (nU ..))
 .rcases iT.1 hy with h|h
  .exact (jU y).2 (.inl (f.r7 y h))
  .have:y=a:=by simpa using h
   exact (jU y).2 (.inr this)
 .rw [oT,ha] at hb
  rcases iT.1 hb with hb|hb
  .exact (jU b).2 (.inl (f.done b hb))
  .have:b=a:=by simpa using hb
   exact (jU b).2 (.inr this)
 .rcases (jU y).1 hy with h|rfl
  .exact f.least S h1 h2 y h
  .exact h2 x (f.least S h1 h2 x f.here) y eL
theorem iU.len {j:Nat} (f:iU l goals out todo x j) (hp:i6 (goals++Ab l)):out.length<=goals.length+(Ab l).length:=by
 have h1:∀ y∈out,y∈goals++Ab l:=f.least (·∈goals++Ab l) (λg hg=>yg _ hg) (λy _ b hb=>L3 _ (zs9 hb))
 have h2:∀ y,y∈out->y∈dY (goals++Ab l):=λy hy=>(uj hp).2 (h1 y hy)
 have h3:=BH (goals++Ab l)
 have h4:out.length<=(dY (goals++Ab l)).length:=by
  have e:out=(dY (goals++Ab l)).filter (λx=>decide (x∈out)):=L8 f.lu (zs0 _ (xT _).lu) (λy=>by
   rw [List.mem_filter,decide_eq_true_iff]
   exact ⟨λhy=>⟨h2 y hy,hy⟩,λhy=>hy.2⟩)
  rw [e]
  exact List.length_filter_le _ _
 rw [cT] at h3
 omega
end Go.Am
namespace Go.Am
variable {s:aN} {u:TypeId} {h0 h1:Heap}
def ju (h0 h:Heap) (u:TypeId) (v:ai) (s:aN):Prop :=
 (s=[]/\qI h v)\/∃ A o full,v=.slice (some ⟨A,o*11,none⟩) s.length (G*11+s.length)/\ak h A (.row (bj full) u false)/\h0.size<=A/\full.drop o=s/\o<=full.length/\full.length<=100000
theorem ju.mono {h0 h h':Heap} {u:TypeId} {v:ai} {s:aN} (f:ju h0 h u v s) (i:bP h h'):ju h0 h' u v s:=by
 rcases f with ⟨e,f⟩|⟨A,o,full,e1,e2,e3⟩
 .exact .inl ⟨e,f.mono i⟩
 .exact .inr ⟨A,o,full,e1,e2.mono i,e3⟩
theorem ju.over {h2:Heap} {v:ai} {bs:List aZ} {w:Nat} (f:ju h0 h1 u v s) (x:Ext (h1.lay bs w) h2):ju h0 h2 u v s:=f.mono ((bP.lay _ _ _).trans x.inc)
theorem ju.down {h:Heap} {v:ai} (f:ju h1 h u v s) (i:h0.size<=h1.size):ju h0 h u v s:=by
 rcases f with f|⟨A,o,full,e1,e2,e3,e4⟩
 .exact .inl f
 .exact .inr ⟨A,o,full,e1,e2,by omega,e4⟩
theorem ju.sl {h0 h:Heap} {u:TypeId} {v:ai} {s:aN} (f:ju h0 h u v s):Sl aG.atom h v s:=by
 rcases f with ⟨rfl,f⟩|⟨A,o,full,rfl,e2,e3,e4,e5,e6⟩
 .exact f.sl
 .have hG:=Mp
  have hs:s.length<=100000:=by rw [<- e4,mB];omega
  obtain ⟨d1,d2,d3⟩:=GD (k:=11) (q:=s.length) (by decide) (by omega)
  exact zzu (o:=o) e2 (.inr ⟨d1,d2,by rw [d3];exact aQ _⟩) hs (λi x hx=>by rw [<- e4,lJ] at hx;exact hx)
theorem ju.app {T:bN} {t:TypeId} {bytes:Nat} {z:List ai} (hd:T.desc t=some (.slice u)) (hi:T.info u=some (11,bytes,z)) (Su:bytes<=1000) {w:ai} {a:ae} {lw:Nat}
 (hz:h0.size<=h1.size) (ho:ju h0 h1 u w s) (hn:s.length<=10000) :
 ∃ w' H',j4 T t w (.slice (some ⟨h1.size+0,0,none⟩) 1 1) (h1.lay [.row a.cells u false] lw)=some (w',H')/\ju h0 H' u w' (s++[a])/\∃ A,h0.size<=A/\(A < h1.size\/A=h1.size)/\fc A (h1.lay [.row a.cells u false] lw) H'/\(A=h1.size\/∀ hh,ju h0 hh u w s->A < hh.size):=by
 obtain ⟨H,hH⟩:∃ H,H=h1.lay [.row a.cells u false] lw:=⟨_,rfl⟩
 have hgB:H.get (h1.size+0)=some (.row a.cells u false):=by rw [hH,kE];rfl
 have AP:H.size=h1.size+1:=by rw [hH,br];rfl
 rw [<- hH]
 have Ir:cut a.cells 0 11=some a.cells:=rfl
 have jw:a.cells.all one=true:=rfl
 have kW:fO (.slice (some ⟨h1.size+0,0,none⟩) 1 1) 11 H=some (1,a.cells):=by
  unfold fO mJ kA
  simp only [hgB,Ir,kK,Nat.one_mul]
  rfl
 have hG:=Mp
 rcases ho with ⟨rfl,SC⟩|⟨A,o,full,rfl,hq,hA,Na,hol,hle⟩
 .have key:∀ base c,c=0->mJ (.slice base 0 c) 11 H=some []->j4 T t (.slice base 0 c) (.slice (some ⟨h1.size+0,0,none⟩) 1 1) H=some (.slice (some ⟨H.size,0,none⟩) 1 (G*11+1),H.push (.row a.cells u false)):=by
   intro base c hc gw
   subst hc
   unfold j4
   simp only [hd,hi,dH,kW,gw,jw]
   rw [aA (by omega),aA (by simp;omega),aA (by simp),aB (by unfold G;omega)]
   rfl
  refine ⟨.slice (some ⟨H.size,0,none⟩) 1 (G*11+1),H.push (.row a.cells u false),?_,?_,h1.size,hz,.inr rfl,⟨by rw [Heap.size_push];omega,λB h1 h2=>by rw [Heap.bH,aA (by omega)],by rw [Heap.eO];omega⟩,.inl rfl⟩
  .rcases SC.no with rfl|⟨B,o,rfl⟩
   .exact key _ _ rfl rfl
   .exact key _ _ rfl rfl
  .refine .inr ⟨H.size,0,[a],rfl,⟨by rw [Heap.size_push];omega,?_⟩,by omega,rfl,by simp,by simp⟩
   rw [Heap.bH,aB rfl]
   rfl
 .have Zy:H.get A=some (.row (bj full) u false):=by rw [hH];exact hq.lay _ _
  have CR:A < h1.size:=hq.lt
  have gO:s.length=full.length - o:=by rw [<- Na,mB]
  obtain ⟨d1,d3,d2⟩:=GD (k:=11) (q:=s.length) (by decide) (by omega)
  have hold:mJ (.slice (some ⟨A,o*11,none⟩) s.length (G*11+s.length)) 11 H=some (bj s):=by
   unfold mJ
   simp only
   split
   .rename_i h0
    have:s=[]:=Cc.1 (by omega)
    subst this
    rfl
   .unfold kA
    rw [Zy]
    have e:full=full.take o++(s++[]):=by rw [bD,<- Na,GS]
    simp only
    rw [e]
    exact zwE (by rw [gR];congr 1;omega) rfl
  have ahl:¬ ((s.length+1)*bytes > 140737488355328):=by
   have:(s.length+1)*bytes<=10001*1000:=Nat.mul_le_mul (by omega) Su
   omega
  have CU:j4 T t (.slice (some ⟨A,o*11,none⟩) s.length (G*11+s.length)) (.slice (some ⟨h1.size+0,0,none⟩) 1 1) H=some (.slice (some ⟨H.size,0,none⟩) (s.length+1) (G*11+(s.length+1)),(H.set A .dead).push (.row (bj s++a.cells) u false)):=by
   unfold j4
   simp only [hd,hi,dH,kW,jw,Zy]
   rw [aA (by omega),aA (by simp;omega),aA (by rw [d2];omega),hold]
   simp only [dH]
   rw [aA (by omega),aB (by rw [d3];simp)]
  rw [CU]
  refine ⟨_,_,rfl,?_,A,hA,.inl CR,⟨by rw [Heap.size_push,Heap.size_set];omega,λB h1 h2=>by rw [Heap.bH,Heap.size_set,aA (by omega),Heap.aH _ _ _ _ (by omega),aA h2],by rw [Heap.eO,Heap.cA];omega⟩,.inr (λhh f=>?_)⟩
  .refine .inr ⟨H.size,0,s++[a],by simp,⟨by rw [Heap.size_push,Heap.size_set];omega,by rw [Heap.bH,Heap.size_set,aB rfl,zwF]⟩,by omega,rfl,by simp,by simp only [cT,eB,dK];omega⟩
  .rcases f with ⟨_,f⟩|⟨A',o',YK,Qf,Qg,_⟩
   .rcases f.no with e|⟨B,o2,e⟩
    .injection e with e4 e5 e6
     cases e4
    .injection e with e4 e5 e6
     omega
   .injection Qf with e4 e5 e6
    injection e4 with e4
    injection e4 with e4 e7
    subst e4
    exact Qg.lt
end Go.Am
namespace Go.Am
section
variable {P:Program} {T:bN} {ov:Ov} {rd:Option Nat}
end
end Go.Am
namespace Go.Am
variable {L:Nat}
def dk (M X A:Nat) (h:Heap):Heap:=kill A (kill X (kill M h))
theorem EP (M X A:Nat) (h:Heap):(dk M X A h).size=h.size:=by unfold dk;rw [rC,rC,rC]
theorem zBm (M X A:Nat) (h:Heap):bP (dk M X A h) h:=(GB _ _).trans ((GB _ _).trans (GB _ _))
theorem Ad {M X A C:Nat} {h:Heap} (h1:C≠A) (h2:C≠X) (h3:C≠M):(dk M X A h).get C=h.get C:=by
 unfold dk
 rw [ur h1,ur h2,ur h3]
theorem Xc {M X A C:Nat} {h:Heap} (hC:C < h.size) (hd:C=A\/C=X\/C=M):(dk M X A h).get C=some .dead:=by
 unfold dk
 by_cases h1:C=A
 .subst h1
  exact EC (by rw [rC,rC];exact hC)
 rw [ur h1]
 by_cases h2:C=X
 .subst h2
  exact EC (by rw [rC];exact hC)
 rw [ur h2]
 have h3:C=M:=by rcases hd with h|h|h <;> first|exact absurd h h1|exact absurd h h2|exact h
 subst h3
 exact EC hC
theorem Pr {M X A C:Nat} {h:Heap} (hC:C < h.size) (hd:(dk M X A h).get C≠some .dead):C≠A/\C≠X/\C≠M :=
 ⟨λe=>hd (Xc hC (.inl e)),λe=>hd (Xc hC (.inr (.inl e))),λe=>hd (Xc hC (.inr (.inr e)))⟩
structure Kn (M X:Nat) (B:Heap) (A:Nat) (h:Heap):Prop where
 m:M < h.size
 x:X < h.size
 lt:A < h.size
 inc:bP B (dk M X A h)
section
variable {M X A A' C:Nat} {B h h1 h2:Heap} {bs:List aZ} {w:Nat} {b:aZ}
theorem zBx {a d:Heap} (i:bP a d):bP (dk M X A a) (dk M X A d):=OL (OL (OL i))
theorem Kn.start (hm:M < h1.size) (hx:X < h1.size) (hA:A < h1.size):Kn M X (dk M X A h1) A h1:=⟨hm,hx,hA,bP.refl _⟩
theorem Kn.all (k:Kn M X B A h1):bP B h1:=k.inc.trans (zBm _ _ _ _)
theorem Kn.mono (k:Kn M X B A h1) (i:bP h1 h2):Kn M X B A h2:=⟨dt k.m i.size,dt k.x i.size,dt k.lt i.size,k.inc.trans (zBx i)⟩
theorem Kn.over (k:Kn M X B A h1) (x:Ext (h1.lay bs w) h2):Kn M X B A h2:=k.mono ((bP.lay _ _ _).trans x.inc)
theorem Kn.lay (k:Kn M X B A h1) (bs:List aZ) (w:Nat):Kn M X B A (h1.lay bs w):=k.mono (bP.lay _ _ _)
theorem Kn.trans (k:Kn M X B A h1) (k2:Kn M X (dk M X A h1) A' h2):Kn M X B A' h2:=⟨k2.m,k2.x,k2.lt,k.inc.trans k2.inc⟩
theorem Kn.holds (k:Kn M X B A h1) (q:ak B C b) (hb:b≠.dead):ak h1 C b/\C≠A/\C≠X/\C≠M:=by
 have hC:C < h1.size:=dt q.lt k.all.size
 have hg:=k.inc.get C q.lt (by rw [q.get];exact λe=>hb (Option.some.inj e))
 rw [q.get] at hg
 have aL:=Pr hC (by rw [hg];exact λe=>hb (Option.some.inj e))
 exact ⟨⟨hC,by rw [<- hg,Ad aL.1 aL.2.1 aL.2.2]⟩,aL⟩
theorem ak.dk (q:ak h1 C b) (hA:C≠A) (hX:C≠X) (hM:C≠M):ak (dk M X A h1) C b:=⟨by rw [EP];exact q.lt,by rw [Ad hA hX hM];exact q.get⟩
theorem Kn.fN (k:Kn M X (Go.Am.dk M X A h1) A' h2) (q:ak h1 C b) (hA:C≠A) (hX:C≠X) (hM:C≠M) (hb:b≠.dead):ak h2 C b/\C≠A' :=
 have:=k.holds (q.dk hA hX hM) hb
 ⟨this.1,this.2.1⟩
theorem Kn.step (k:Kn M X B A h1) (c:fc A (h1.lay bs w) h2) (hA:A'=A\/h1.size<=A') (hl:A' < h2.size):Kn M X B A' h2:=by
 have hs:h1.size<=(h1.lay bs w).size:=by rw [br];omega
 have eE:=c.size
 refine ⟨dt k.m (by omega),dt k.x (by omega),hl,⟨by rw [EP];exact dZ k.all.size (by omega),λC hC hd=>?_⟩⟩
 have h3:=k.inc.get C hC hd
 have MW:C < h1.size:=dt hC k.all.size
 have aL:=Pr MW (by rw [h3];exact hd)
 rw [Ad aL.1 aL.2.1 aL.2.2] at h3
 rw [Ad (by rcases hA with e|e <;> omega) aL.2.1 aL.2.2,c.get C (by omega) aL.1,sd _ _ _ MW]
 exact h3
theorem Kn.round {h3:Heap} (c:fc L h h1) (k:Kn M X (Go.Am.dk M X A h1) A' h2) (c2:fc L h2 h3) (hb:h3.get L=h.get L) (hL:L≠A'/\L≠X/\L≠M):Kn M X (Go.Am.dk M X A h) A' h3:=by
 have hs:=c.size
 have eE:=c2.size
 have ti:=k.all.size
 rw [EP] at ti
 refine ⟨dt k.m eE,dt k.x eE,dt k.lt eE,⟨by rw [EP,EP];omega,λD hD hd=>?_⟩⟩
 rw [EP] at hD
 have aL:=Pr hD hd
 rw [Ad aL.1 aL.2.1 aL.2.2] at hd ⊢
 by_cases RW:D=L
 .subst RW
  rw [Ad hL.1 hL.2.1 hL.2.2,hb]
 .have g1:=c.get D hD RW
  have g2:=k.inc.get D (by rw [EP];omega) (by rw [Ad aL.1 aL.2.1 aL.2.2,g1];exact hd)
  rw [Ad aL.1 aL.2.1 aL.2.2,g1] at g2
  have tj:=Pr (h:=h2) (M:=M) (X:=X) (A:=A') (C:=D) (by omega) (by rw [g2];exact hd)
  rw [Ad tj.1 tj.2.1 tj.2.2] at g2 ⊢
  rw [c2.get D (by omega) RW,g2]
end
theorem Ow.low {Z:Type} {r:aG Z} {h0 h1 h:Heap} {e A:Nat} {v:ai} {l:List Z} (hs:h0.size<=h1.size) (f:Ow r h1 h e A v l):Ow r h0 h e A v l:=by
 rcases f with ⟨e1,e2,e3⟩|⟨row,e1,e2,e3,e4⟩
 .refine .inl ⟨by omega,e2,?_⟩
  rcases e3 with e3|⟨B,o,g1,g2,g3⟩
  .exact .inl e3
  .exact .inr ⟨B,o,g1,by omega,g3⟩
 .exact .inr ⟨row,e1,e2,by omega,e4⟩
def jF {Z:Type} (r:aG Z) (h0 h:Heap) (e:TypeId) (v:ai) (l:List Z):Prop:=∃ A,Ow r h0 h e A v l
section
variable {Z:Type} {r:aG Z} {h0 h0' h h' h1 h2:Heap} {e:TypeId} {v:ai} {l:List Z}
theorem jF.mono (f:jF r h0 h e v l) (i:bP h h'):jF r h0 h' e v l:=f.elim λA o=>⟨A,o.mono i⟩
theorem jF.over {bs:List aZ} {w:Nat} (f:jF r h0 h1 e v l) (x:Ext (h1.lay bs w) h2):jF r h0 h2 e v l:=f.elim λA o=>⟨A,o.over x⟩
theorem jF.lay (f:jF r h0 h e v l) (bs:List aZ) (w:Nat):jF r h0 (h.lay bs w) e v l:=f.mono (bP.lay _ _ _)
theorem jF.low (hs:h0'.size<=h0.size) (f:jF r h0 h e v l):jF r h0' h e v l:=f.elim λA o=>⟨A,o.low hs⟩
theorem jF.sl (f:jF r h0 h e v l) (hk:0 < r.k):Sl r h v l:=f.elim λA o=>o.sl hk
theorem jF.dk {M X A:Nat} (f:jF r h0 h e v l) (hk:0 < r.k) (dP:∀ h h' cs x,r.R h cs x->r.R h' cs x) (hM:M < h0.size) (hX:X < h0.size) (hA:A < h0.size):Sl r (dk M X A h) v l :=
 f.elim λB o=>(((o.kill dP hM).kill dP hX).kill dP hA).sl hk
end
section
variable {P:Program} {T:bN} {ov:Ov} {M X:Nat} {h0:Heap} {J:List (List av)->Nat->Heap->Prop} {fy:ai}
structure Sm (L:Nat) (h h':Heap):Prop where
 size:h.size<=h'.size
 get:∀ B,B < h.size->B≠L->h'.get B=h.get B
theorem fc.sm {h h':Heap} (c:fc L h h'):Sm L h h':=⟨c.size,c.get⟩
theorem Ext.sm {h h':Heap} (x:Ext h h') (L:Nat):Sm L h h':=⟨x.size,λB hB _=>x.get B hB⟩
theorem zBJ (h:Heap) (bs:List aZ) (w L:Nat):Sm L h (h.lay bs w):=⟨by rw [br];omega,λB hB _=>sd h bs w hB⟩
theorem ak.sm {C:Nat} {h h':Heap} {b:aZ} (q:ak h C b) (s:Sm L h h') (aL:C≠L):ak h' C b:=⟨dt q.lt s.size,(s.get C q.lt aL).trans q.get⟩
structure HE (N M X:Nat) (J:List (List av)->Nat->Heap->Prop):Prop where
 m:M < N
 x:X < N
 lt:∀ {done A h},J done A h->M < h.size/\X < h.size/\A < h.size
 sm:∀ {done A h1 h2 L},J done A h1->Sm L h1 h2->N<=L->L≠A->J done A h2
theorem HE.lay {N:Nat} (s:HE N M X J) {done:List (List av)} {A:Nat} {h1:Heap} (j:J done A h1) (bs:List aZ) (w:Nat):J done A (h1.lay bs w):=by
 have hl:=s.lt j
 exact s.sm (L:=N+h1.size) j (zBJ _ _ _ _) (by omega) (by omega)
theorem HE.over {N:Nat} (s:HE N M X J) {done:List (List av)} {A w:Nat} {h1 h2:Heap} {bs:List aZ} (j:J done A h1) (x:Ext (h1.lay bs w) h2):J done A h2:=by
 have hl:=s.lt j
 exact s.sm (L:=N+h1.size) (s.lay j bs w) (x.sm _) (by omega) (by omega)
structure JJ (N M X:Nat) (J:List (List av)->Nat->Heap->Prop) (done:List (List av)) (A:Nat) (h:Heap):Prop where
 st:HE N M X J
 j:J done A h
theorem JJ.lay {N:Nat} {done:List (List av)} {A:Nat} {h1:Heap} (f:JJ N M X J done A h1) (bs:List aZ) (w:Nat):JJ N M X J done A (h1.lay bs w):=⟨f.st,f.st.lay f.j bs w⟩
theorem JJ.over {N:Nat} {done:List (List av)} {A w:Nat} {h1 h2:Heap} {bs:List aZ} (f:JJ N M X J done A h1) (x:Ext (h1.lay bs w) h2):JJ N M X J done A h2:=⟨f.st,f.st.over f.j x⟩
end
theorem Ow.sm {Z:Type} {r:aG Z} {h0 h h':Heap} {e:TypeId} {A:Nat} {v:ai} {l:List Z} (dP:∀ h h' cs x,r.R h cs x->r.R h' cs x) (f:Ow r h0 h e A v l) (c:Sm L h h') (hL:L≠A) (hn:l=[]->∀ B o x n c,v=.slice (some ⟨B,o,x⟩) n c->B≠L):Ow r h0 h' e A v l:=by
 rcases f with ⟨e1,e2,e3⟩|⟨row,e1,e2,e3,e4,e5,e6,e7,e8⟩
 .refine .inl ⟨e1,e2,?_⟩
  rcases e3 with e3|⟨B,o,g1,g2,g3,row,u,ro,g4⟩
  .exact .inl e3
  .exact .inr ⟨B,o,g1,g2,dt g3 c.size,row,u,ro,by rw [c.get B g3 (hn e2 _ _ _ _ _ g1)];exact g4⟩
 .refine .inr ⟨row,e1,e2,e3,dt e4 c.size,by rw [c.get A e4 (Ne.symm hL)];exact e5,e6,e7,λi x hx=>?_⟩
  obtain ⟨cs,g1,g2⟩:=e8 i x hx
  exact ⟨cs,g1,dP _ _ _ _ g2⟩
theorem dp.sm {κ:Type} {kv:κ->ai} {h h':Heap} {A L:Nat} {met:List κ} (m:dp kv h A met) (c:Sm L h h') (aL:A≠L):dp kv h' A met:=by
 obtain ⟨es,cl,ks,m1,m2,m3⟩:=m
 exact ⟨es,cl,ks,m1.sm c aL,m2,m3⟩
structure RJ (hb:Heap) (N:Nat) (u1 u2:TypeId) (M X:Nat) (facts heads:aN) (A:Nat) (h:Heap):Prop where
 lt:M < h.size/\X < h.size/\A < h.size
 map:∃ met,dp ae.val h M met/\∀ a,a∈met↔a∈heads
 out:∃ (v:ai) (out:aN),ak h X (.row [v] u1 false)/\(∀ a,a∈out↔a∈facts\/a∈heads)/\out.length<=facts.length+heads.length/\Ow aG.atom hb h u2 A v out/\(out≠[]->A≠X/\A≠M)/\(out=[]->A=X/\∀ B o x n c,v=.slice (some ⟨B,o,x⟩) n c->B < N)
theorem RJ.sm {hb h1 h2:Heap} {N M X A L:Nat} {u1 u2:TypeId} {facts heads:aN} (f:RJ hb N u1 u2 M X facts heads A h1) (hM:M < N) (hX:X < N) (c:Sm L h1 h2) (hN:N<=L) (hL:L≠A):RJ hb N u1 u2 M X facts heads A h2:=by
 obtain ⟨⟨f1,f2,f3⟩,⟨met,m1,m2⟩,v,out,o1,o2,o3,o4,o5,o6⟩:=f
 have hs:=c.size
 exact ⟨by omega,⟨met,m1.sm c (by omega),m2⟩,v,out,o1.sm c (by omega),o2,o3,o4.sm (λ_ _ _ _ h=>h) c hL (λe B o x n c hv=>by have:=(o6 e).2 B o x n c hv;omega),o5,o6⟩
theorem RJ.over {hb h1 h2:Heap} {N M X A w:Nat} {u1 u2:TypeId} {bs:List aZ} {facts heads:aN} (f:RJ hb N u1 u2 M X facts heads A h1) (x:Ext (h1.lay bs w) h2):RJ hb N u1 u2 M X facts heads A h2:=by
 obtain ⟨⟨f1,f2,f3⟩,⟨met,m1,m2⟩,v,out,o1,o2,o3,o4,o5⟩:=f
 have hs:=x.size
 rw [br] at hs
 exact ⟨by omega,⟨met,m1.over x,m2⟩,v,out,o1.over x,o2,o3,o4.over x,o5⟩
theorem RJ.lay {hb h1:Heap} {N M X A:Nat} {u1 u2:TypeId} {facts heads:aN} (f:RJ hb N u1 u2 M X facts heads A h1) (bs:List aZ) (w:Nat):RJ hb N u1 u2 M X facts heads A (h1.lay bs w):=f.over (Ext.refl _)
end Go.Am
