/- What goals need: the least closed list. No condition. -/
import Derived.Test.YtmamldleclamjaaGreatDoorG25
set_option linter.unusedSimpArgs false
set_option linter.unusedVariables false
namespace Go.Am
variable {l:List gJ} {goals out todo:aN} {x:aj}
def y8 (l:List gJ) (a:aj):aN:=match l.find? (λr=>r.atom == a) with
 |some r=>r.body
 |none=>[]
structure kM (l:List gJ) (goals out:aN):Prop where
 gK:dG out
 plain:jN out
 lJ:∀ g∈goals,g∈out
 closed:∀ x∈out,∀ b∈y8 l x,b∈out
 least:∀ S:aj->Prop,(∀ g∈goals,S g)->(∀ x,S x->∀ b∈y8 l x,S b)->∀ x∈out,S x
theorem kM.eq {g o1 o2:aN} (f:kM l g o1) (h:kM l g o2):o1=o2 :=
 JD f.gK h.gK (λx=>⟨λhx=>f.least (·∈o2) h.lJ h.closed x hx,λhx=>h.least (·∈o1) f.lJ f.closed x hx⟩)
theorem kM.none {o:aN} (f:kM l [] o):o=[]:=by
 cases o with
 |nil=>rfl
 |cons x o=>exact (f.least (λ_=>False) (λg hg=>by cases hg) (λ_ h=>h.elim) x (fZ ..)).elim
def B9 (l:List gJ):aN:=l.flatMap (·.body)
theorem ztx {a b:aj} (h:b∈y8 l a):b∈B9 l:=by
 unfold y8 at h
 split at h
 .rename_i r hr
  exact DP.2 ⟨r,List.mem_of_find?_eq_some hr,h⟩
 .cases h
structure mF (l:List gJ) (goals out todo:aN):Prop where
 gK:dG out
 plain:jN out
 lJ:∀ g∈goals,g∈out
 closed:∀ x∈out,x∈todo\/∀ b∈y8 l x,b∈out
 ue:∀ x∈todo,x∈out
 least:∀ S:aj->Prop,(∀ g∈goals,S g)->(∀ x,S x->∀ b∈y8 l x,S b)->∀ x∈out,S x
theorem mF.start (h:jN goals):mF l goals (eW goals) (eW goals) :=
 ⟨(pe goals).gK,h.sort,λg hg=>(IY h).2 hg,λx hx=>.inl hx,λx hx=>hx,λS h1 _ x hx=>h1 x ((IY h).1 hx)⟩
structure jD (l:List gJ) (goals out todo:aN) (x:aj) (j:Nat):Prop where
 gK:dG out
 plain:jN out
 lJ:∀ g∈goals,g∈out
 closed:∀ y∈out,y∈todo\/y=x\/∀ b∈y8 l y,b∈out
 ue:∀ y∈todo,y∈out
 here:x∈out
 done:∀ b∈(y8 l x).take j,b∈out
 least:∀ S:aj->Prop,(∀ g∈goals,S g)->(∀ x,S x->∀ b∈y8 l x,S b)->∀ x∈out,S x
theorem mF.enter (f:mF l goals out (x::todo)):jD l goals out todo x 0 :=
 ⟨f.gK,f.plain,f.lJ,λy hy=>by
  rcases f.closed y hy with h|h
  .rcases cJ.1 h with h|h
   .exact .inr (.inl h)
   .exact .inl h
  .exact .inr (.inr h),λy hy=>f.ue y (eQ _ hy),f.ue x (fZ ..),by simp,f.least⟩
theorem jD.add {a:aj} {j:Nat} (f:jD l goals out todo x j) (ha:(y8 l x)[j]? = some a) (hp:iF a):jD l goals (cz a out) (todo++[a]) x (j+1):=by
 have kZ:∀ y,y∈cz a out↔y∈out\/y=a:=λy=>by
  rw [G6 f.gK]
  constructor
  .rintro (h|⟨rfl,_⟩)
   .exact .inl h
   .exact .inr rfl
  .rintro (h|rfl)
   .exact .inl h
   .by_cases hy:y∈out
    .exact .inl hy
    .refine .inr ⟨rfl,λz hz e=>hy ?_⟩
     rw [(zxB hp (f.plain z hz)).1 e]
     exact hz
 have bY:a∈y8 l x:=fW ha
 refine ⟨P8 f.gK,λy hy=>?_,λg hg=>(kZ g).2 (.inl (f.lJ g hg)),λy hy=>?_,λy hy=>?_,(kZ x).2 (.inl f.here),λb hb=>?_,λS h1 h2 y hy=>?_⟩
 .rcases (kZ y).1 hy with h|rfl
  .exact f.plain y h
  .exact hp
 .rcases (kZ y).1 hy with h|rfl
  .rcases f.closed y h with h|h|h
   .exact .inl (Jl _ h)
   .exact .inr (.inl h)
   .exact .inr (.inr (λb hb=>(kZ b).2 (.inl (h b hb))))
  .exact .inl (Jn _ (fZ ..))
 .rcases iA.1 hy with h|h
  .exact (kZ y).2 (.inl (f.ue y h))
  .have:y=a:=by simpa using h
   exact (kZ y).2 (.inr this)
 .rw [nS,ha] at hb
  rcases iA.1 hb with hb|hb
  .exact (kZ b).2 (.inl (f.done b hb))
  .have:b=a:=by simpa using hb
   exact (kZ b).2 (.inr this)
 .rcases (kZ y).1 hy with h|rfl
  .exact f.least S h1 h2 y h
  .exact h2 x (f.least S h1 h2 x f.here) y bY
theorem jD.len {j:Nat} (f:jD l goals out todo x j) (hp:jN (goals++B9 l)):out.length<=goals.length+(B9 l).length:=by
 have h1:∀ y∈out,y∈goals++B9 l:=f.least (·∈goals++B9 l) (λg hg=>Jl _ hg) (λy _ b hb=>Jn _ (ztx hb))
 have h2:∀ y,y∈out->y∈eW (goals++B9 l):=λy hy=>(IY hp).2 (h1 y hy)
 have h3:=BO (goals++B9 l)
 have h4:out.length<=(eW (goals++B9 l)).length:=by
  have e:out=(eW (goals++B9 l)).filter (λx=>decide (x∈out)):=JD f.gK (ztq _ (pe _).gK) (λy=>by
   rw [List.mem_filter,decide_eq_true_iff]
   exact ⟨λhy=>⟨h2 y hy,hy⟩,λhy=>hy.2⟩)
  rw [e]
  exact Hv _ _
 rw [dI] at h3
 omega
end Go.Am
namespace Go.Am
variable {s:aN} {u:TypeId} {h0 h1:Heap}
def i9 (h0 h:Heap) (u:TypeId) (v:ah) (s:aN):Prop :=
 (s=[]/\sx h v)\/∃ A o full,v=.slice (some ⟨A,o*11,none⟩) s.length (G*11+s.length)/\Holds h A (.row (aQ full) u false)/\h0.size<=A/\full.drop o=s/\o<=full.length/\full.length<=100000
theorem i9.mono {h0 h h':Heap} {u:TypeId} {v:ah} {s:aN} (f:i9 h0 h u v s) (i:bH h h'):i9 h0 h' u v s:=by
 rcases f with ⟨e,f⟩|⟨A,o,full,e1,e2,e3⟩
 .exact .inl ⟨e,f.mono i⟩
 .exact .inr ⟨A,o,full,e1,e2.mono i,e3⟩
theorem i9.over {h2:Heap} {v:ah} {bs:List ba} {w:Nat} (f:i9 h0 h1 u v s) (x:Ext (h1.lay bs w) h2):i9 h0 h2 u v s:=f.mono ((bH.lay _ _ _).trans x.inc)
theorem i9.down {h:Heap} {v:ah} (f:i9 h1 h u v s) (i:h0.size<=h1.size):i9 h0 h u v s:=by
 rcases f with f|⟨A,o,full,e1,e2,e3,e4⟩
 .exact .inl f
 .exact .inr ⟨A,o,full,e1,e2,by omega,e4⟩
theorem i9.sl {h0 h:Heap} {u:TypeId} {v:ah} {s:aN} (f:i9 h0 h u v s):Sl aK.atom h v s:=by
 rcases f with ⟨rfl,f⟩|⟨A,o,full,rfl,e2,e3,e4,e5,e6⟩
 .exact f.sl
 .have hG:=Aj
  have hs:s.length<=100000:=by rw [<- e4,jM];omega
  obtain ⟨d1,d2,d3⟩:=yX (k:=11) (q:=s.length) (by decide) (by omega)
  exact zAw (o:=o) e2 (.inr ⟨d1,d2,by rw [d3];exact bo _⟩) hs (λi x hx=>by rw [<- e4,kL] at hx;exact hx)
theorem i9.tail {T:bO} {t u:TypeId} {kd:IntKind} (hd:T.desc t=some (.slice u)) (hs:di T u=some 11) {h0 h:Heap} {v:ah} {x:aj} {s:aN} (f:i9 h0 h u v (x::s)) :
 ∃ v',jL T t v (some (.int kd 1)) none none=some v'/\i9 h0 h u v' s:=by
 rcases f with ⟨e,_⟩|⟨A,o,full,rfl,e2,e3,e4,e5,e6⟩
 .cases e
 .have hG:=Aj
  have hl:(x::s).length=full.length - o:=by rw [<- e4,jM]
  simp only [dY] at hl
  obtain ⟨d1,d2,d3⟩:=yX (k:=11) (q:=s.length+1) (by decide) (by omega)
  refine ⟨.slice (some ⟨A,o*11+1*11,none⟩) (s.length+1 - 1) (G*11+(s.length+1 - 1)),?_,.inr ⟨A,o+1,full,?_,e2,e3,?_,by omega,e6⟩⟩
  .unfold jL
   simp only [hd,hs,dX,dY]
   rw [aA (by omega),d2,aB rfl,d3]
   unfold rq
   have hb:wV (.int kd 1) (s.length+1)=some 1:=by
    have:=GW (kd:=kd) (n:=1) (hi:=s.length+1) (by omega)
    simpa using this
   simp only [hb,dX,j2]
  .rw [<- tH]
   rfl
  .have:=congrArg List.tail e4
   rw [List.tail_cons,List.tail_drop] at this
   exact this
theorem i9.app {T:bO} {t:TypeId} {bytes:Nat} {z:List ah} (hd:T.desc t=some (.slice u)) (hi:T.info u=some (11,bytes,z)) (uX:bytes<=1000) {w:ah} {a:aj} {lw:Nat}
 (hz:h0.size<=h1.size) (ho:i9 h0 h1 u w s) (hn:s.length<=10000) :
 ∃ w' H',iy T t w (.slice (some ⟨h1.size+0,0,none⟩) 1 1) (h1.lay [.row a.cells u false] lw)=some (w',H')/\i9 h0 H' u w' (s++[a])/\∃ A,h0.size<=A/\(A < h1.size\/A=h1.size)/\eX A (h1.lay [.row a.cells u false] lw) H'/\(A=h1.size\/∀ hh,i9 h0 hh u w s->A < hh.size):=by
 obtain ⟨H,hH⟩:∃ H,H=h1.lay [.row a.cells u false] lw:=⟨_,rfl⟩
 have zG:H.get (h1.size+0)=some (.row a.cells u false):=by rw [hH,iB];rfl
 have Rt:H.size=h1.size+1:=by rw [hH,bd];rfl
 rw [<- hH]
 have tT:cut a.cells 0 11=some a.cells:=rfl
 have bt:a.cells.all one=true:=rfl
 have jd:fN (.slice (some ⟨h1.size+0,0,none⟩) 1 1) 11 H=some (1,a.cells):=by
  unfold fN ma iQ
  simp only [zG,tT,j2,Nat.one_mul]
  rfl
 have hG:=Aj
 rcases ho with ⟨rfl,xN⟩|⟨A,o,full,rfl,hq,hA,hdr,hol,hle⟩
 .have key:∀ base c,c=0->ma (.slice base 0 c) 11 H=some []->iy T t (.slice base 0 c) (.slice (some ⟨h1.size+0,0,none⟩) 1 1) H=some (.slice (some ⟨H.size,0,none⟩) 1 (G*11+1),H.push (.row a.cells u false)):=by
   intro base c hc eY
   subst hc
   unfold iy
   simp only [hd,hi,dX,jd,eY,bt]
   rw [aA (by omega),aA (by simp;omega),aA (by simp),aB (by unfold G;omega)]
   rfl
  refine ⟨.slice (some ⟨H.size,0,none⟩) 1 (G*11+1),H.push (.row a.cells u false),?_,?_,h1.size,hz,.inr rfl,⟨by rw [Heap.size_push];omega,λB h1 h2=>by rw [Heap.bC,aA (by omega)],by rw [Heap.dB];omega⟩,.inl rfl⟩
  .rcases xN.no with rfl|⟨B,o,rfl⟩
   .exact key _ _ rfl rfl
   .exact key _ _ rfl rfl
  .refine .inr ⟨H.size,0,[a],rfl,⟨by rw [Heap.size_push];omega,?_⟩,by omega,rfl,by simp,by simp⟩
   rw [Heap.bC,aB rfl]
   rfl
 .have CY:H.get A=some (.row (aQ full) u false):=by rw [hH];exact hq.lay _ _
  have LP:A < h1.size:=hq.lt
  have nH:s.length=full.length - o:=by rw [<- hdr,jM]
  obtain ⟨d1,d3,d2⟩:=yX (k:=11) (q:=s.length) (by decide) (by omega)
  have hold:ma (.slice (some ⟨A,o*11,none⟩) s.length (G*11+s.length)) 11 H=some (aQ s):=by
   unfold ma
   simp only
   split
   .rename_i h0
    have:s=[]:=Ai.1 (by omega)
    subst this
    rfl
   .unfold iQ
    rw [CY]
    have e:full=full.take o++(s++[]):=by rw [bG,<- hdr,pj]
    simp only
    rw [e]
    exact zpB (by rw [fw];congr 1;omega) rfl
  have Mh:¬ ((s.length+1)*bytes > 140737488355328):=by
   have:(s.length+1)*bytes<=10001*1000:=HG (by omega) uX
   omega
  have mi:iy T t (.slice (some ⟨A,o*11,none⟩) s.length (G*11+s.length)) (.slice (some ⟨h1.size+0,0,none⟩) 1 1) H=some (.slice (some ⟨H.size,0,none⟩) (s.length+1) (G*11+(s.length+1)),(H.set A .dead).push (.row (aQ s++a.cells) u false)):=by
   unfold iy
   simp only [hd,hi,dX,jd,bt,CY]
   rw [aA (by omega),aA (by simp;omega),aA (by rw [d2];omega),hold]
   simp only [dX]
   rw [aA (by omega),aB (by rw [d3];simp)]
  rw [mi]
  refine ⟨_,_,rfl,?_,A,hA,.inl LP,⟨by rw [Heap.size_push,Heap.size_set];omega,λB h1 h2=>by rw [Heap.bC,Heap.size_set,aA (by omega),Heap.aJ _ _ _ _ (by omega),aA h2],by rw [Heap.dB,Heap.cd];omega⟩,.inr (λhh f=>?_)⟩
  .refine .inr ⟨H.size,0,s++[a],by simp,⟨by rw [Heap.size_push,Heap.size_set];omega,by rw [Heap.bC,Heap.size_set,aB rfl,zpC]⟩,by omega,rfl,by simp,by simp only [dI,dY,dK];omega⟩
  .rcases f with ⟨_,f⟩|⟨A',o',ad2,UN,EJ,_⟩
   .rcases f.no with e|⟨B,o2,e⟩
    .injection e with e4 e5 e6
     cases e4
    .injection e with e4 e5 e6
     omega
   .injection UN with e4 e5 e6
    injection e4 with e4
    injection e4 with e4 e7
    subst e4
    exact EJ.lt
end Go.Am
namespace Go.Am
section
variable {P:Program} {T:bO} {ov:Ov} {rd:Option Nat}
end
end Go.Am
namespace Go.Am
variable {L:Nat}
def dk (M X A:Nat) (h:Heap):Heap:=kill A (kill X (kill M h))
theorem Hc (M X A:Nat) (h:Heap):(dk M X A h).size=h.size:=by unfold dk;rw [r7,r7,r7]
theorem zC3 (M X A:Nat) (h:Heap):bH (dk M X A h) h:=(I7 _ _).trans ((I7 _ _).trans (I7 _ _))
theorem B4 {M X A C:Nat} {h:Heap} (h1:C≠A) (h2:C≠X) (h3:C≠M):(dk M X A h).get C=h.get C:=by
 unfold dk
 rw [vP h1,vP h2,vP h3]
theorem zqH {M X A C:Nat} {h:Heap} (hC:C < h.size) (hd:C=A\/C=X\/C=M):(dk M X A h).get C=some .dead:=by
 unfold dk
 by_cases h1:C=A
 .subst h1
  exact G2 (by rw [r7,r7];exact hC)
 rw [vP h1]
 by_cases h2:C=X
 .subst h2
  exact G2 (by rw [r7];exact hC)
 rw [vP h2]
 have h3:C=M:=by rcases hd with h|h|h <;> first|exact absurd h h1|exact absurd h h2|exact h
 subst h3
 exact G2 hC
theorem T4 {M X A C:Nat} {h:Heap} (hC:C < h.size) (hd:(dk M X A h).get C≠some .dead):C≠A/\C≠X/\C≠M :=
 ⟨λe=>hd (zqH hC (.inl e)),λe=>hd (zqH hC (.inr (.inl e))),λe=>hd (zqH hC (.inr (.inr e)))⟩
structure Kn (M X:Nat) (B:Heap) (A:Nat) (h:Heap):Prop where
 m:M < h.size
 x:X < h.size
 lt:A < h.size
 inc:bH B (dk M X A h)
section
variable {M X A A' C:Nat} {B h h1 h2:Heap} {bs:List ba} {w:Nat} {b:ba}
theorem zDa {a d:Heap} (i:bH a d):bH (dk M X A a) (dk M X A d):=PY (PY (PY i))
theorem Kn.start (hm:M < h1.size) (hx:X < h1.size) (hA:A < h1.size):Kn M X (dk M X A h1) A h1:=⟨hm,hx,hA,bH.refl _⟩
theorem Kn.all (k:Kn M X B A h1):bH B h1:=k.inc.trans (zC3 _ _ _ _)
theorem Kn.mono (k:Kn M X B A h1) (i:bH h1 h2):Kn M X B A h2:=⟨dJ k.m i.size,dJ k.x i.size,dJ k.lt i.size,k.inc.trans (zDa i)⟩
theorem Kn.over (k:Kn M X B A h1) (x:Ext (h1.lay bs w) h2):Kn M X B A h2:=k.mono ((bH.lay _ _ _).trans x.inc)
theorem Kn.lay (k:Kn M X B A h1) (bs:List ba) (w:Nat):Kn M X B A (h1.lay bs w):=k.mono (bH.lay _ _ _)
theorem Kn.trans (k:Kn M X B A h1) (k2:Kn M X (dk M X A h1) A' h2):Kn M X B A' h2:=⟨k2.m,k2.x,k2.lt,k.inc.trans k2.inc⟩
theorem Kn.holds (k:Kn M X B A h1) (q:Holds B C b) (hb:b≠.dead):Holds h1 C b/\C≠A/\C≠X/\C≠M:=by
 have hC:C < h1.size:=dJ q.lt k.all.size
 have hg:=k.inc.get C q.lt (by rw [q.get];exact λe=>hb (Option.some.inj e))
 rw [q.get] at hg
 have aS:=T4 hC (by rw [hg];exact λe=>hb (Option.some.inj e))
 exact ⟨⟨hC,by rw [<- hg,B4 aS.1 aS.2.1 aS.2.2]⟩,aS⟩
theorem Holds.dk (q:Holds h1 C b) (hA:C≠A) (hX:C≠X) (hM:C≠M):Holds (dk M X A h1) C b:=⟨by rw [Hc];exact q.lt,by rw [B4 hA hX hM];exact q.get⟩
theorem Kn.keep (k:Kn M X (Go.Am.dk M X A h1) A' h2) (q:Holds h1 C b) (hA:C≠A) (hX:C≠X) (hM:C≠M) (hb:b≠.dead):Holds h2 C b/\C≠A' :=
 have:=k.holds (q.dk hA hX hM) hb
 ⟨this.1,this.2.1⟩
theorem Kn.step (k:Kn M X B A h1) (c:eX A (h1.lay bs w) h2) (hA:A'=A\/h1.size<=A') (hl:A' < h2.size):Kn M X B A' h2:=by
 have hs:h1.size<=(h1.lay bs w).size:=by rw [bd];omega
 have gG:=c.size
 refine ⟨dJ k.m (by omega),dJ k.x (by omega),hl,⟨by rw [Hc];exact hY k.all.size (by omega),λC hC hd=>?_⟩⟩
 have h3:=k.inc.get C hC hd
 have Rq:C < h1.size:=dJ hC k.all.size
 have aS:=T4 Rq (by rw [h3];exact hd)
 rw [B4 aS.1 aS.2.1 aS.2.2] at h3
 rw [B4 (by rcases hA with e|e <;> omega) aS.2.1 aS.2.2,c.get C (by omega) aS.1,uo _ _ _ Rq]
 exact h3
theorem Kn.round {h3:Heap} (c:eX L h h1) (k:Kn M X (Go.Am.dk M X A h1) A' h2) (c2:eX L h2 h3) (hb:h3.get L=h.get L) (hL:L≠A'/\L≠X/\L≠M):Kn M X (Go.Am.dk M X A h) A' h3:=by
 have hs:=c.size
 have gG:=c2.size
 have xX:=k.all.size
 rw [Hc] at xX
 refine ⟨dJ k.m gG,dJ k.x gG,dJ k.lt gG,⟨by rw [Hc,Hc];omega,λD hD hd=>?_⟩⟩
 rw [Hc] at hD
 have aS:=T4 hD hd
 rw [B4 aS.1 aS.2.1 aS.2.2] at hd ⊢
 by_cases WG:D=L
 .subst WG
  rw [B4 hL.1 hL.2.1 hL.2.2,hb]
 .have g1:=c.get D hD WG
  have g2:=k.inc.get D (by rw [Hc];omega) (by rw [B4 aS.1 aS.2.1 aS.2.2,g1];exact hd)
  rw [B4 aS.1 aS.2.1 aS.2.2,g1] at g2
  have FO:=T4 (h:=h2) (M:=M) (X:=X) (A:=A') (C:=D) (by omega) (by rw [g2];exact hd)
  rw [B4 FO.1 FO.2.1 FO.2.2] at g2 ⊢
  rw [c2.get D (by omega) WG,g2]
end
theorem Ow.low {Z:Type} {r:aK Z} {h0 h1 h:Heap} {e A:Nat} {v:ah} {l:List Z} (hs:h0.size<=h1.size) (f:Ow r h1 h e A v l):Ow r h0 h e A v l:=by
 rcases f with ⟨e1,e2,e3⟩|⟨row,e1,e2,e3,e4⟩
 .refine .inl ⟨by omega,e2,?_⟩
  rcases e3 with e3|⟨B,o,g1,g2,g3⟩
  .exact .inl e3
  .exact .inr ⟨B,o,g1,by omega,g3⟩
 .exact .inr ⟨row,e1,e2,by omega,e4⟩
def rI {Z:Type} (r:aK Z) (h0 h:Heap) (e:TypeId) (v:ah) (l:List Z):Prop:=∃ A,Ow r h0 h e A v l
section
variable {Z:Type} {r:aK Z} {h0 h0' h h' h1 h2:Heap} {e:TypeId} {v:ah} {l:List Z}
theorem rI.mono (f:rI r h0 h e v l) (i:bH h h'):rI r h0 h' e v l:=f.elim λA o=>⟨A,o.mono i⟩
theorem rI.over {bs:List ba} {w:Nat} (f:rI r h0 h1 e v l) (x:Ext (h1.lay bs w) h2):rI r h0 h2 e v l:=f.elim λA o=>⟨A,o.over x⟩
theorem rI.lay (f:rI r h0 h e v l) (bs:List ba) (w:Nat):rI r h0 (h.lay bs w) e v l:=f.mono (bH.lay _ _ _)
theorem rI.low (hs:h0'.size<=h0.size) (f:rI r h0 h e v l):rI r h0' h e v l:=f.elim λA o=>⟨A,o.low hs⟩
theorem rI.sl (f:rI r h0 h e v l) (hk:0 < r.k):Sl r h v l:=f.elim λA o=>o.sl hk
theorem rI.dk {M X A:Nat} (f:rI r h0 h e v l) (hk:0 < r.k) (gg:∀ h h' cs x,r.R h cs x->r.R h' cs x) (hM:M < h0.size) (hX:X < h0.size) (hA:A < h0.size):Sl r (dk M X A h) v l :=
 f.elim λB o=>(((o.kill gg hM).kill gg hX).kill gg hA).sl hk
end
section
variable {P:Program} {T:bO} {ov:Ov} {M X:Nat} {h0:Heap} {J:List (List bp)->Nat->Heap->Prop} {fy:ah}
structure Sm (L:Nat) (h h':Heap):Prop where
 size:h.size<=h'.size
 get:∀ B,B < h.size->B≠L->h'.get B=h.get B
theorem eX.sm {h h':Heap} (c:eX L h h'):Sm L h h':=⟨c.size,c.get⟩
theorem Ext.sm {h h':Heap} (x:Ext h h') (L:Nat):Sm L h h':=⟨x.size,λB hB _=>x.get B hB⟩
theorem zDt (h:Heap) (bs:List ba) (w L:Nat):Sm L h (h.lay bs w):=⟨by rw [bd];omega,λB hB _=>uo h bs w hB⟩
theorem Holds.sm {C:Nat} {h h':Heap} {b:ba} (q:Holds h C b) (s:Sm L h h') (aS:C≠L):Holds h' C b:=⟨dJ q.lt s.size,(s.get C q.lt aS).trans q.get⟩
structure KW (N M X:Nat) (J:List (List bp)->Nat->Heap->Prop):Prop where
 m:M < N
 x:X < N
 lt:∀ {done A h},J done A h->M < h.size/\X < h.size/\A < h.size
 sm:∀ {done A h1 h2 L},J done A h1->Sm L h1 h2->N<=L->L≠A->J done A h2
theorem KW.lay {N:Nat} (s:KW N M X J) {done:List (List bp)} {A:Nat} {h1:Heap} (j:J done A h1) (bs:List ba) (w:Nat):J done A (h1.lay bs w):=by
 have hl:=s.lt j
 exact s.sm (L:=N+h1.size) j (zDt _ _ _ _) (by omega) (by omega)
theorem KW.over {N:Nat} (s:KW N M X J) {done:List (List bp)} {A w:Nat} {h1 h2:Heap} {bs:List ba} (j:J done A h1) (x:Ext (h1.lay bs w) h2):J done A h2:=by
 have hl:=s.lt j
 exact s.sm (L:=N+h1.size) (s.lay j bs w) (x.sm _) (by omega) (by omega)
structure JJ (N M X:Nat) (J:List (List bp)->Nat->Heap->Prop) (done:List (List bp)) (A:Nat) (h:Heap):Prop where
 st:KW N M X J
 j:J done A h
theorem JJ.lay {N:Nat} {done:List (List bp)} {A:Nat} {h1:Heap} (f:JJ N M X J done A h1) (bs:List ba) (w:Nat):JJ N M X J done A (h1.lay bs w):=⟨f.st,f.st.lay f.j bs w⟩
theorem JJ.over {N:Nat} {done:List (List bp)} {A w:Nat} {h1 h2:Heap} {bs:List ba} (f:JJ N M X J done A h1) (x:Ext (h1.lay bs w) h2):JJ N M X J done A h2:=⟨f.st,f.st.over f.j x⟩
end
theorem zwu {T:bO} {t e:TypeId} {Z:Type} {r:aK Z} {B:Heap} {v:ah} {l:List Z} (f:Sl r B v l) (hk:0 < r.k) (hd:T.desc t=some (.slice e)) (hs:di T e=some r.k) {a:Nat} {kd:IntKind} (ha:a<=l.length) :
 ∃ v',jL T t v (some (.int kd a)) none none=some v'/\Sl r B v' (l.drop a):=by
 have h:=zoO (bs:=[]) (w:=B.low) f hk hd hs (kd:=kd) ha (K:=λv' _=>Sl r B v' (l.drop a)) (λ_ h=>h)
 cases e:jL T t v (some (.int kd a)) none none with
 |none=>rw [e] at h;exact h.elim
 |some v'=>rw [e] at h;exact ⟨v',rfl,h⟩
theorem Ow.sm {Z:Type} {r:aK Z} {h0 h h':Heap} {e:TypeId} {A:Nat} {v:ah} {l:List Z} (gg:∀ h h' cs x,r.R h cs x->r.R h' cs x) (f:Ow r h0 h e A v l) (c:Sm L h h') (hL:L≠A) (hn:l=[]->∀ B o x n c,v=.slice (some ⟨B,o,x⟩) n c->B≠L):Ow r h0 h' e A v l:=by
 rcases f with ⟨e1,e2,e3⟩|⟨row,e1,e2,e3,e4,e5,e6,e7,e8⟩
 .refine .inl ⟨e1,e2,?_⟩
  rcases e3 with e3|⟨B,o,g1,g2,g3,row,u,ro,g4⟩
  .exact .inl e3
  .exact .inr ⟨B,o,g1,g2,dJ g3 c.size,row,u,ro,by rw [c.get B g3 (hn e2 _ _ _ _ _ g1)];exact g4⟩
 .refine .inr ⟨row,e1,e2,e3,dJ e4 c.size,by rw [c.get A e4 (Ne.symm hL)];exact e5,e6,e7,λi x hx=>?_⟩
  obtain ⟨cs,g1,g2⟩:=e8 i x hx
  exact ⟨cs,g1,gg _ _ _ _ g2⟩
theorem dz.sm {κ:Type} {kv:κ->ah} {h h':Heap} {A L:Nat} {met:List κ} (m:dz kv h A met) (c:Sm L h h') (aS:A≠L):dz kv h' A met:=by
 obtain ⟨es,cl,ks,m1,m2,m3⟩:=m
 exact ⟨es,cl,ks,m1.sm c aS,m2,m3⟩
structure RJ (hb:Heap) (N:Nat) (u1 u2:TypeId) (M X:Nat) (facts heads:aN) (A:Nat) (h:Heap):Prop where
 lt:M < h.size/\X < h.size/\A < h.size
 map:∃ met,dz aj.val h M met/\∀ a,a∈met↔a∈heads
 out:∃ (v:ah) (out:aN),Holds h X (.row [v] u1 false)/\(∀ a,a∈out↔a∈facts\/a∈heads)/\out.length<=facts.length+heads.length/\Ow aK.atom hb h u2 A v out/\(out≠[]->A≠X/\A≠M)/\(out=[]->A=X/\∀ B o x n c,v=.slice (some ⟨B,o,x⟩) n c->B < N)
theorem RJ.sm {hb h1 h2:Heap} {N M X A L:Nat} {u1 u2:TypeId} {facts heads:aN} (f:RJ hb N u1 u2 M X facts heads A h1) (hM:M < N) (hX:X < N) (c:Sm L h1 h2) (hN:N<=L) (hL:L≠A):RJ hb N u1 u2 M X facts heads A h2:=by
 obtain ⟨⟨f1,f2,f3⟩,⟨met,m1,m2⟩,v,out,o1,o2,o3,o4,o5,o6⟩:=f
 have hs:=c.size
 exact ⟨by omega,⟨met,m1.sm c (by omega),m2⟩,v,out,o1.sm c (by omega),o2,o3,o4.sm (λ_ _ _ _ h=>h) c hL (λe B o x n c hv=>by have:=(o6 e).2 B o x n c hv;omega),o5,o6⟩
theorem RJ.over {hb h1 h2:Heap} {N M X A w:Nat} {u1 u2:TypeId} {bs:List ba} {facts heads:aN} (f:RJ hb N u1 u2 M X facts heads A h1) (x:Ext (h1.lay bs w) h2):RJ hb N u1 u2 M X facts heads A h2:=by
 obtain ⟨⟨f1,f2,f3⟩,⟨met,m1,m2⟩,v,out,o1,o2,o3,o4,o5⟩:=f
 have hs:=x.size
 rw [bd] at hs
 exact ⟨by omega,⟨met,m1.over x,m2⟩,v,out,o1.over x,o2,o3,o4.over x,o5⟩
theorem RJ.lay {hb h1:Heap} {N M X A:Nat} {u1 u2:TypeId} {facts heads:aN} (f:RJ hb N u1 u2 M X facts heads A h1) (bs:List ba) (w:Nat):RJ hb N u1 u2 M X facts heads A (h1.lay bs w):=f.over (Ext.refl _)
end Go.Am
