/- What goals need: the least closed list. No condition. -/
import Derived.Test.YtnkmeidmdaidhaaGreatDoorG25
set_option linter.unusedSimpArgs false
set_option linter.unusedVariables false
namespace Go.Am
variable {l:List bc} {x:ae} {goals out todo:aN}
def xT (l:List bc) (a:ae):aN:=match l.find? (λr=>r.atom == a) with
 |some r=>r.body
 |none=>[]
structure j8 (l:List bc) (goals out:aN):Prop where
 kJ:gh out
 plain:lx out
 kT:∀ g∈goals,g∈out
 closed:∀ x∈out,∀ b∈xT l x,b∈out
 least:∀ S:ae->Prop,(∀ g∈goals,S g)->(∀ x,S x->∀ b∈xT l x,S b)->∀ x∈out,S x
theorem j8.eq {g o1 o2:aN} (f:j8 l g o1) (h:j8 l g o2):o1=o2 :=
 Ia f.kJ h.kJ (λx=>⟨λhx=>f.least (·∈o2) h.kT h.closed x hx,λhx=>h.least (·∈o1) f.kT f.closed x hx⟩)
theorem j8.none {o:aN} (f:j8 l [] o):o=[]:=by
 cases o with
 |nil=>rfl
 |cons x o=>exact (f.least (λ_=>False) (λg hg=>by cases hg) (λ_ h=>h.elim) x (np ..)).elim
def Br (l:List bc):aN:=l.flatMap (·.body)
theorem ztQ {a b:ae} (h:b∈xT l a):b∈Br l:=by
 unfold xT at h
 split at h
 .rename_i r hr
  exact BE.2 ⟨r,List.mem_of_find?_eq_some hr,h⟩
 .cases h
structure ss (l:List bc) (goals out todo:aN):Prop where
 kJ:gh out
 plain:lx out
 kT:∀ g∈goals,g∈out
 closed:∀ x∈out,x∈todo\/∀ b∈xT l x,b∈out
 sN:∀ x∈todo,x∈out
 least:∀ S:ae->Prop,(∀ g∈goals,S g)->(∀ x,S x->∀ b∈xT l x,S b)->∀ x∈out,S x
structure jb (l:List bc) (goals out todo:aN) (x:ae) (j:Nat):Prop where
 kJ:gh out
 plain:lx out
 kT:∀ g∈goals,g∈out
 closed:∀ y∈out,y∈todo\/y=x\/∀ b∈xT l y,b∈out
 sN:∀ y∈todo,y∈out
 here:x∈out
 done:∀ b∈(xT l x).take j,b∈out
 least:∀ S:ae->Prop,(∀ g∈goals,S g)->(∀ x,S x->∀ b∈xT l x,S b)->∀ x∈out,S x
theorem ss.enter (f:ss l goals out (x::todo)):jb l goals out todo x 0 :=
 ⟨f.kJ,f.plain,f.kT,λy hy=>by
  rcases f.closed y hy with h|h
  .rcases df.1 h with h|h
   .exact .inr (.inl h)
   .exact .inl h
  .exact .inr (.inr h),λy hy=>f.sN y (pS _ hy),f.sN x (np ..),by simp,f.least⟩
theorem jb.add {a:ae} {j:Nat} (f:jb l goals out todo x j) (ha:(xT l x)[j]? = some a) (hp:gY a):jb l goals (iZ a out) (todo++[a]) x (j+1):=by
 have jO:∀ y,y∈iZ a out↔y∈out\/y=a:=λy=>by
  rw [FV f.kJ]
  constructor
  .rintro (h|⟨rfl,_⟩)
   .exact .inl h
   .exact .inr rfl
  .rintro (h|rfl)
   .exact .inl h
   .by_cases hy:y∈out
    .exact .inl hy
    .refine .inr ⟨rfl,λz hz e=>hy ?_⟩
     rw [(zxB hp (f.plain z hz)).1 e]
     exact hz
 have dR:a∈xT l x:=en ha
 refine ⟨Yy f.kJ,λy hy=>?_,λg hg=>(jO g).2 (.inl (f.kT g hg)),λy hy=>?_,λy hy=>?_,(jO x).2 (.inl f.here),λb hb=>?_,λS h1 h2 y hy=>?_⟩
 .rcases (jO y).1 hy with h|rfl
  .exact f.plain y h
  .exact hp
 .rcases (jO y).1 hy with h|rfl
  .rcases f.closed y h with h|h|h
   .exact .inl (xX _ h)
   .exact .inr (.inl h)
   .exact .inr (.inr (λb hb=>(jO b).2 (.inl (h b hb))))
  .exact .inl (H3 _ (np ..))
 .rcases gg.1 hy with h|h
  .exact (jO y).2 (.inl (f.sN y h))
  .have:y=a:=by simpa using h
   exact (jO y).2 (.inr this)
 .rw [lr,ha] at hb
  rcases gg.1 hb with hb|hb
  .exact (jO b).2 (.inl (f.done b hb))
  .have:b=a:=by simpa using hb
   exact (jO b).2 (.inr this)
 .rcases (jO y).1 hy with h|rfl
  .exact f.least S h1 h2 y h
  .exact h2 x (f.least S h1 h2 x f.here) y dR
theorem jb.len {j:Nat} (f:jb l goals out todo x j) (hp:lx (goals++Br l)):out.length<=goals.length+(Br l).length:=by
 have h1:∀ y∈out,y∈goals++Br l:=f.least (·∈goals++Br l) (λg hg=>xX _ hg) (λy _ b hb=>H3 _ (ztQ hb))
 have h2:∀ y,y∈out->y∈gW (goals++Br l):=λy hy=>(CP hp).2 (h1 y hy)
 have h3:=He (goals++Br l)
 have h4:out.length<=(gW (goals++Br l)).length:=by
  have e:out=(gW (goals++Br l)).filter (λx=>decide (x∈out)):=Ia f.kJ (ztH _ (yQ _).kJ) (λy=>by
   rw [Il,decide_eq_true_iff]
   exact ⟨λhy=>⟨h2 y hy,hy⟩,λhy=>hy.2⟩)
  rw [e]
  exact List.length_filter_le _ _
 rw [cE] at h3
 omega
end Go.Am
namespace Go.Am
variable {s:aN} {u:TypeId} {h0 h1:Heap}
def jJ (h0 h:Heap) (u:TypeId) (v:ai) (s:aN):Prop :=
 (s=[]/\rm h v)\/∃ A o full,v=.slice (some ⟨A,o*11,none⟩) s.length (G*11+s.length)/\Holds h A (.row (bm full) u false)/\h0.size<=A/\full.drop o=s/\o<=full.length/\full.length<=100000
theorem jJ.mono {h0 h h':Heap} {u:TypeId} {v:ai} {s:aN} (f:jJ h0 h u v s) (i:bN h h'):jJ h0 h' u v s:=by
 rcases f with ⟨e,f⟩|⟨A,o,full,e1,e2,e3⟩
 .exact .inl ⟨e,f.mono i⟩
 .exact .inr ⟨A,o,full,e1,e2.mono i,e3⟩
theorem jJ.over {h2:Heap} {v:ai} {bs:List aZ} {w:Nat} (f:jJ h0 h1 u v s) (x:Ext (h1.lay bs w) h2):jJ h0 h2 u v s:=f.mono ((bN.lay _ _ _).trans x.inc)
theorem jJ.down {h:Heap} {v:ai} (f:jJ h1 h u v s) (i:h0.size<=h1.size):jJ h0 h u v s:=by
 rcases f with f|⟨A,o,full,e1,e2,e3,e4⟩
 .exact .inl f
 .exact .inr ⟨A,o,full,e1,e2,by omega,e4⟩
theorem jJ.sl {h0 h:Heap} {u:TypeId} {v:ai} {s:aN} (f:jJ h0 h u v s):Sl aC.atom h v s:=by
 rcases f with ⟨rfl,f⟩|⟨A,o,full,rfl,e2,e3,e4,e5,e6⟩
 .exact f.sl
 .have hG:=NZ
  have hs:s.length<=100000:=by rw [<- e4,mf];omega
  obtain ⟨d1,d2,d3⟩:=HO (k:=11) (q:=s.length) (by decide) (by omega)
  exact zAy (o:=o) e2 (.inr ⟨d1,d2,by rw [d3];exact aR _⟩) hs (λi x hx=>by rw [<- e4,lq] at hx;exact hx)
theorem jJ.app {T:bJ} {t:TypeId} {bytes:Nat} {z:List ai} (hd:T.desc t=some (.slice u)) (hi:T.info u=some (11,bytes,z)) (Un:bytes<=1000) {w:ai} {a:ae} {lw:Nat}
 (hz:h0.size<=h1.size) (ho:jJ h0 h1 u w s) (hn:s.length<=10000) :
 ∃ w' H',jT T t w (.slice (some ⟨h1.size+0,0,none⟩) 1 1) (h1.lay [.row a.cells u false] lw)=some (w',H')/\jJ h0 H' u w' (s++[a])/\∃ A,h0.size<=A/\(A < h1.size\/A=h1.size)/\ff A (h1.lay [.row a.cells u false] lw) H'/\(A=h1.size\/∀ hh,jJ h0 hh u w s->A < hh.size):=by
 obtain ⟨H,hH⟩:∃ H,H=h1.lay [.row a.cells u false] lw:=⟨_,rfl⟩
 have hgB:H.get (h1.size+0)=some (.row a.cells u false):=by rw [hH,jG];rfl
 have sH:H.size=h1.size+1:=by rw [hH,bh];rfl
 rw [<- hH]
 have JZ:cut a.cells 0 11=some a.cells:=rfl
 have iV:a.cells.all one=true:=rfl
 have lF:fU (.slice (some ⟨h1.size+0,0,none⟩) 1 1) 11 H=some (1,a.cells):=by
  unfold fU nj kY
  simp only [hgB,JZ,lu,Nat.one_mul]
  rfl
 have hG:=NZ
 rcases ho with ⟨rfl,Uw⟩|⟨A,o,full,rfl,hq,hA,OV,hol,hle⟩
 .have key:∀ base c,c=0->nj (.slice base 0 c) 11 H=some []->jT T t (.slice base 0 c) (.slice (some ⟨h1.size+0,0,none⟩) 1 1) H=some (.slice (some ⟨H.size,0,none⟩) 1 (G*11+1),H.push (.row a.cells u false)):=by
   intro base c hc gI
   subst hc
   unfold jT
   simp only [hd,hi,dO,lF,gI,iV]
   rw [az (by omega),az (by simp;omega),az (by simp),aD (by unfold G;omega)]
   rfl
  refine ⟨.slice (some ⟨H.size,0,none⟩) 1 (G*11+1),H.push (.row a.cells u false),?_,?_,h1.size,hz,.inr rfl,⟨by rw [Heap.size_push];omega,λB h1 h2=>by rw [Heap.bA,az (by omega)],by rw [Heap.eY];omega⟩,.inl rfl⟩
  .rcases Uw.no with rfl|⟨B,o,rfl⟩
   .exact key _ _ rfl rfl
   .exact key _ _ rfl rfl
  .refine .inr ⟨H.size,0,[a],rfl,⟨by rw [Heap.size_push];omega,?_⟩,by omega,rfl,by simp,by simp⟩
   rw [Heap.bA,aD rfl]
   rfl
 .have hqH:H.get A=some (.row (bm full) u false):=by rw [hH];exact hq.lay _ _
  have DV:A < h1.size:=hq.lt
  have ia:s.length=full.length - o:=by rw [<- OV,mf]
  obtain ⟨d1,d3,d2⟩:=HO (k:=11) (q:=s.length) (by decide) (by omega)
  have hold:nj (.slice (some ⟨A,o*11,none⟩) s.length (G*11+s.length)) 11 H=some (bm s):=by
   unfold nj
   simp only
   split
   .rename_i h0
    have:s=[]:=C8.1 (by omega)
    subst this
    rfl
   .unfold kY
    rw [hqH]
    have e:full=full.take o++(s++[]):=by rw [bC,<- OV,H4]
    simp only
    rw [e]
    exact zxG (by rw [gR];congr 1;omega) rfl
  have aj1:¬ ((s.length+1)*bytes > 140737488355328):=by
   have:(s.length+1)*bytes<=10001*1000:=Nat.mul_le_mul (by omega) Un
   omega
  have DX:jT T t (.slice (some ⟨A,o*11,none⟩) s.length (G*11+s.length)) (.slice (some ⟨h1.size+0,0,none⟩) 1 1) H=some (.slice (some ⟨H.size,0,none⟩) (s.length+1) (G*11+(s.length+1)),(H.set A .dead).push (.row (bm s++a.cells) u false)):=by
   unfold jT
   simp only [hd,hi,dO,lF,iV,hqH]
   rw [az (by omega),az (by simp;omega),az (by rw [d2];omega),hold]
   simp only [dO]
   rw [az (by omega),aD (by rw [d3];simp)]
  rw [DX]
  refine ⟨_,_,rfl,?_,A,hA,.inl DV,⟨by rw [Heap.size_push,Heap.size_set];omega,λB h1 h2=>by rw [Heap.bA,Heap.size_set,az (by omega),Heap.aG _ _ _ _ (by omega),az h2],by rw [Heap.eY,Heap.cM];omega⟩,.inr (λhh f=>?_)⟩
  .refine .inr ⟨H.size,0,s++[a],by simp,⟨by rw [Heap.size_push,Heap.size_set];omega,by rw [Heap.bA,Heap.size_set,aD rfl,zxH]⟩,by omega,rfl,by simp,by simp only [cE,ek,db];omega⟩
  .rcases f with ⟨_,f⟩|⟨A',o',aaR,GG,GH,_⟩
   .rcases f.no with e|⟨B,o2,e⟩
    .injection e with e4 e5 e6
     cases e4
    .injection e with e4 e5 e6
     omega
   .injection GG with e4 e5 e6
    injection e4 with e4
    injection e4 with e4 e7
    subst e4
    exact GH.lt
end Go.Am
namespace Go.Am
section
variable {P:Program} {T:bJ} {ov:Ov} {rd:Option Nat}
end
end Go.Am
namespace Go.Am
variable {L:Nat}
def dk (M X A:Nat) (h:Heap):Heap:=kill A (kill X (kill M h))
theorem F1 (M X A:Nat) (h:Heap):(dk M X A h).size=h.size:=by unfold dk;rw [qY,qY,qY]
theorem zCH (M X A:Nat) (h:Heap):bN (dk M X A h) h:=(HL _ _).trans ((HL _ _).trans (HL _ _))
theorem Bt {M X A C:Nat} {h:Heap} (h1:C≠A) (h2:C≠X) (h3:C≠M):(dk M X A h).get C=h.get C:=by
 unfold dk
 rw [u7 h1,u7 h2,u7 h3]
theorem YT {M X A C:Nat} {h:Heap} (hC:C < h.size) (hd:C=A\/C=X\/C=M):(dk M X A h).get C=some .dead:=by
 unfold dk
 by_cases h1:C=A
 .subst h1
  exact FM (by rw [qY,qY];exact hC)
 rw [u7 h1]
 by_cases h2:C=X
 .subst h2
  exact FM (by rw [qY];exact hC)
 rw [u7 h2]
 have h3:C=M:=by rcases hd with h|h|h <;> first|exact absurd h h1|exact absurd h h2|exact h
 subst h3
 exact FM hC
theorem QY {M X A C:Nat} {h:Heap} (hC:C < h.size) (hd:(dk M X A h).get C≠some .dead):C≠A/\C≠X/\C≠M :=
 ⟨λe=>hd (YT hC (.inl e)),λe=>hd (YT hC (.inr (.inl e))),λe=>hd (YT hC (.inr (.inr e)))⟩
structure Kn (M X:Nat) (B:Heap) (A:Nat) (h:Heap):Prop where
 m:M < h.size
 x:X < h.size
 lt:A < h.size
 inc:bN B (dk M X A h)
section
variable {M X A A' C:Nat} {B h h1 h2:Heap} {bs:List aZ} {w:Nat} {b:aZ}
theorem zCR {a d:Heap} (i:bN a d):bN (dk M X A a) (dk M X A d):=Qq (Qq (Qq i))
theorem Kn.all (k:Kn M X B A h1):bN B h1:=k.inc.trans (zCH _ _ _ _)
theorem Kn.mono (k:Kn M X B A h1) (i:bN h1 h2):Kn M X B A h2:=⟨dr k.m i.size,dr k.x i.size,dr k.lt i.size,k.inc.trans (zCR i)⟩
theorem Kn.over (k:Kn M X B A h1) (x:Ext (h1.lay bs w) h2):Kn M X B A h2:=k.mono ((bN.lay _ _ _).trans x.inc)
theorem Kn.lay (k:Kn M X B A h1) (bs:List aZ) (w:Nat):Kn M X B A (h1.lay bs w):=k.mono (bN.lay _ _ _)
theorem Kn.trans (k:Kn M X B A h1) (k2:Kn M X (dk M X A h1) A' h2):Kn M X B A' h2:=⟨k2.m,k2.x,k2.lt,k.inc.trans k2.inc⟩
theorem Kn.holds (k:Kn M X B A h1) (q:Holds B C b) (hb:b≠.dead):Holds h1 C b/\C≠A/\C≠X/\C≠M:=by
 have hC:C < h1.size:=dr q.lt k.all.size
 have hg:=k.inc.get C q.lt (by rw [q.get];exact λe=>hb (Option.some.inj e))
 rw [q.get] at hg
 have aM:=QY hC (by rw [hg];exact λe=>hb (Option.some.inj e))
 exact ⟨⟨hC,by rw [<- hg,Bt aM.1 aM.2.1 aM.2.2]⟩,aM⟩
theorem Holds.dk (q:Holds h1 C b) (hA:C≠A) (hX:C≠X) (hM:C≠M):Holds (dk M X A h1) C b:=⟨by rw [F1];exact q.lt,by rw [Bt hA hX hM];exact q.get⟩
theorem Kn.keep (k:Kn M X (Go.Am.dk M X A h1) A' h2) (q:Holds h1 C b) (hA:C≠A) (hX:C≠X) (hM:C≠M) (hb:b≠.dead):Holds h2 C b/\C≠A' :=
 have:=k.holds (q.dk hA hX hM) hb
 ⟨this.1,this.2.1⟩
theorem Kn.step (k:Kn M X B A h1) (c:ff A (h1.lay bs w) h2) (hA:A'=A\/h1.size<=A') (hl:A' < h2.size):Kn M X B A' h2:=by
 have hs:h1.size<=(h1.lay bs w).size:=by rw [bh];omega
 have eQ:=c.size
 refine ⟨dr k.m (by omega),dr k.x (by omega),hl,⟨by rw [F1];exact eA k.all.size (by omega),λC hC hd=>?_⟩⟩
 have h3:=k.inc.get C hC hd
 have OJ:C < h1.size:=dr hC k.all.size
 have aM:=QY OJ (by rw [h3];exact hd)
 rw [Bt aM.1 aM.2.1 aM.2.2] at h3
 rw [Bt (by rcases hA with e|e <;> omega) aM.2.1 aM.2.2,c.get C (by omega) aM.1,sU _ _ _ OJ]
 exact h3
theorem Kn.round {h3:Heap} (c:ff L h h1) (k:Kn M X (Go.Am.dk M X A h1) A' h2) (c2:ff L h2 h3) (hb:h3.get L=h.get L) (hL:L≠A'/\L≠X/\L≠M):Kn M X (Go.Am.dk M X A h) A' h3:=by
 have hs:=c.size
 have eQ:=c2.size
 have n7:=k.all.size
 rw [F1] at n7
 refine ⟨dr k.m eQ,dr k.x eQ,dr k.lt eQ,⟨by rw [F1,F1];omega,λD hD hd=>?_⟩⟩
 rw [F1] at hD
 have aM:=QY hD hd
 rw [Bt aM.1 aM.2.1 aM.2.2] at hd ⊢
 by_cases TV:D=L
 .subst TV
  rw [Bt hL.1 hL.2.1 hL.2.2,hb]
 .have g1:=c.get D hD TV
  have g2:=k.inc.get D (by rw [F1];omega) (by rw [Bt aM.1 aM.2.1 aM.2.2,g1];exact hd)
  rw [Bt aM.1 aM.2.1 aM.2.2,g1] at g2
  have tW:=QY (h:=h2) (M:=M) (X:=X) (A:=A') (C:=D) (by omega) (by rw [g2];exact hd)
  rw [Bt tW.1 tW.2.1 tW.2.2] at g2 ⊢
  rw [c2.get D (by omega) TV,g2]
end
theorem Ow.low {Z:Type} {r:aC Z} {h0 h1 h:Heap} {e A:Nat} {v:ai} {l:List Z} (hs:h0.size<=h1.size) (f:Ow r h1 h e A v l):Ow r h0 h e A v l:=by
 rcases f with ⟨e1,e2,e3⟩|⟨row,e1,e2,e3,e4⟩
 .refine .inl ⟨by omega,e2,?_⟩
  rcases e3 with e3|⟨B,o,g1,g2,g3⟩
  .exact .inl e3
  .exact .inr ⟨B,o,g1,by omega,g3⟩
 .exact .inr ⟨row,e1,e2,by omega,e4⟩
def jX {Z:Type} (r:aC Z) (h0 h:Heap) (e:TypeId) (v:ai) (l:List Z):Prop:=∃ A,Ow r h0 h e A v l
section
variable {Z:Type} {r:aC Z} {h0 h0' h h' h1 h2:Heap} {e:TypeId} {v:ai} {l:List Z}
theorem jX.mono (f:jX r h0 h e v l) (i:bN h h'):jX r h0 h' e v l:=f.elim λA o=>⟨A,o.mono i⟩
theorem jX.over {bs:List aZ} {w:Nat} (f:jX r h0 h1 e v l) (x:Ext (h1.lay bs w) h2):jX r h0 h2 e v l:=f.elim λA o=>⟨A,o.over x⟩
theorem jX.lay (f:jX r h0 h e v l) (bs:List aZ) (w:Nat):jX r h0 (h.lay bs w) e v l:=f.mono (bN.lay _ _ _)
theorem jX.low (hs:h0'.size<=h0.size) (f:jX r h0 h e v l):jX r h0' h e v l:=f.elim λA o=>⟨A,o.low hs⟩
theorem jX.sl (f:jX r h0 h e v l) (hk:0 < r.k):Sl r h v l:=f.elim λA o=>o.sl hk
theorem jX.dk {M X A:Nat} (f:jX r h0 h e v l) (hk:0 < r.k) (ef:∀ h h' cs x,r.R h cs x->r.R h' cs x) (hM:M < h0.size) (hX:X < h0.size) (hA:A < h0.size):Sl r (dk M X A h) v l :=
 f.elim λB o=>(((o.kill ef hM).kill ef hX).kill ef hA).sl hk
end
section
variable {P:Program} {T:bJ} {ov:Ov} {M X:Nat} {h0:Heap} {J:List (List au)->Nat->Heap->Prop} {fy:ai}
structure Sm (L:Nat) (h h':Heap):Prop where
 size:h.size<=h'.size
 get:∀ B,B < h.size->B≠L->h'.get B=h.get B
theorem ff.sm {h h':Heap} (c:ff L h h'):Sm L h h':=⟨c.size,c.get⟩
theorem Ext.sm {h h':Heap} (x:Ext h h') (L:Nat):Sm L h h':=⟨x.size,λB hB _=>x.get B hB⟩
theorem zDa (h:Heap) (bs:List aZ) (w L:Nat):Sm L h (h.lay bs w):=⟨by rw [bh];omega,λB hB _=>sU h bs w hB⟩
theorem Holds.sm {C:Nat} {h h':Heap} {b:aZ} (q:Holds h C b) (s:Sm L h h') (aM:C≠L):Holds h' C b:=⟨dr q.lt s.size,(s.get C q.lt aM).trans q.get⟩
structure Jc (N M X:Nat) (J:List (List au)->Nat->Heap->Prop):Prop where
 m:M < N
 x:X < N
 lt:∀ {done A h},J done A h->M < h.size/\X < h.size/\A < h.size
 sm:∀ {done A h1 h2 L},J done A h1->Sm L h1 h2->N<=L->L≠A->J done A h2
theorem Jc.lay {N:Nat} (s:Jc N M X J) {done:List (List au)} {A:Nat} {h1:Heap} (j:J done A h1) (bs:List aZ) (w:Nat):J done A (h1.lay bs w):=by
 have hl:=s.lt j
 exact s.sm (L:=N+h1.size) j (zDa _ _ _ _) (by omega) (by omega)
theorem Jc.over {N:Nat} (s:Jc N M X J) {done:List (List au)} {A w:Nat} {h1 h2:Heap} {bs:List aZ} (j:J done A h1) (x:Ext (h1.lay bs w) h2):J done A h2:=by
 have hl:=s.lt j
 exact s.sm (L:=N+h1.size) (s.lay j bs w) (x.sm _) (by omega) (by omega)
structure JJ (N M X:Nat) (J:List (List au)->Nat->Heap->Prop) (done:List (List au)) (A:Nat) (h:Heap):Prop where
 st:Jc N M X J
 j:J done A h
theorem JJ.lay {N:Nat} {done:List (List au)} {A:Nat} {h1:Heap} (f:JJ N M X J done A h1) (bs:List aZ) (w:Nat):JJ N M X J done A (h1.lay bs w):=⟨f.st,f.st.lay f.j bs w⟩
theorem JJ.over {N:Nat} {done:List (List au)} {A w:Nat} {h1 h2:Heap} {bs:List aZ} (f:JJ N M X J done A h1) (x:Ext (h1.lay bs w) h2):JJ N M X J done A h2:=⟨f.st,f.st.over f.j x⟩
end
theorem Ow.sm {Z:Type} {r:aC Z} {h0 h h':Heap} {e:TypeId} {A:Nat} {v:ai} {l:List Z} (ef:∀ h h' cs x,r.R h cs x->r.R h' cs x) (f:Ow r h0 h e A v l) (c:Sm L h h') (hL:L≠A) (hn:l=[]->∀ B o x n c,v=.slice (some ⟨B,o,x⟩) n c->B≠L):Ow r h0 h' e A v l:=by
 rcases f with ⟨e1,e2,e3⟩|⟨row,e1,e2,e3,e4,e5,e6,e7,e8⟩
 .refine .inl ⟨e1,e2,?_⟩
  rcases e3 with e3|⟨B,o,g1,g2,g3,row,u,ro,g4⟩
  .exact .inl e3
  .exact .inr ⟨B,o,g1,g2,dr g3 c.size,row,u,ro,by rw [c.get B g3 (hn e2 _ _ _ _ _ g1)];exact g4⟩
 .refine .inr ⟨row,e1,e2,e3,dr e4 c.size,by rw [c.get A e4 (Ne.symm hL)];exact e5,e6,e7,λi x hx=>?_⟩
  obtain ⟨cs,g1,g2⟩:=e8 i x hx
  exact ⟨cs,g1,ef _ _ _ _ g2⟩
theorem dt.sm {κ:Type} {kv:κ->ai} {h h':Heap} {A L:Nat} {met:List κ} (m:dt kv h A met) (c:Sm L h h') (aM:A≠L):dt kv h' A met:=by
 obtain ⟨es,cl,ks,m1,m2,m3⟩:=m
 exact ⟨es,cl,ks,m1.sm c aM,m2,m3⟩
structure RJ (hb:Heap) (N:Nat) (u1 u2:TypeId) (M X:Nat) (facts heads:aN) (A:Nat) (h:Heap):Prop where
 lt:M < h.size/\X < h.size/\A < h.size
 map:∃ met,dt ae.val h M met/\∀ a,a∈met↔a∈heads
 out:∃ (v:ai) (out:aN),Holds h X (.row [v] u1 false)/\(∀ a,a∈out↔a∈facts\/a∈heads)/\out.length<=facts.length+heads.length/\Ow aC.atom hb h u2 A v out/\(out≠[]->A≠X/\A≠M)/\(out=[]->A=X/\∀ B o x n c,v=.slice (some ⟨B,o,x⟩) n c->B < N)
theorem RJ.sm {hb h1 h2:Heap} {N M X A L:Nat} {u1 u2:TypeId} {facts heads:aN} (f:RJ hb N u1 u2 M X facts heads A h1) (hM:M < N) (hX:X < N) (c:Sm L h1 h2) (hN:N<=L) (hL:L≠A):RJ hb N u1 u2 M X facts heads A h2:=by
 obtain ⟨⟨f1,f2,f3⟩,⟨met,m1,m2⟩,v,out,o1,o2,o3,o4,o5,o6⟩:=f
 have hs:=c.size
 exact ⟨by omega,⟨met,m1.sm c (by omega),m2⟩,v,out,o1.sm c (by omega),o2,o3,o4.sm (λ_ _ _ _ h=>h) c hL (λe B o x n c hv=>by have:=(o6 e).2 B o x n c hv;omega),o5,o6⟩
theorem RJ.over {hb h1 h2:Heap} {N M X A w:Nat} {u1 u2:TypeId} {bs:List aZ} {facts heads:aN} (f:RJ hb N u1 u2 M X facts heads A h1) (x:Ext (h1.lay bs w) h2):RJ hb N u1 u2 M X facts heads A h2:=by
 obtain ⟨⟨f1,f2,f3⟩,⟨met,m1,m2⟩,v,out,o1,o2,o3,o4,o5⟩:=f
 have hs:=x.size
 rw [bh] at hs
 exact ⟨by omega,⟨met,m1.over x,m2⟩,v,out,o1.over x,o2,o3,o4.over x,o5⟩
theorem RJ.lay {hb h1:Heap} {N M X A:Nat} {u1 u2:TypeId} {facts heads:aN} (f:RJ hb N u1 u2 M X facts heads A h1) (bs:List aZ) (w:Nat):RJ hb N u1 u2 M X facts heads A (h1.lay bs w):=f.over (Ext.refl _)
end Go.Am
