/- Ranges over functions that turn three blocks: a map's, a box, the elements behind it. No condition. -/
import Derived.Test.YtkgojconmeeegaaGreatDoorG25
set_option linter.unusedSimpArgs false
set_option linter.unusedVariables false
namespace Go.Am
variable {L:Nat}
def dk (M X A:Nat) (h:Heap):Heap:=kill A (kill X (kill M h))
structure Kn (M X:Nat) (B:Heap) (A:Nat) (h:Heap):Prop where
 m:M < h.size
 x:X < h.size
 lt:A < h.size
 inc:b8 B (dk M X A h)
section
variable {M X A A' C:Nat} {B h h1 h2:Heap} {bs:List bh} {w:Nat} {b:bh}
end
section
variable {Z:Type} {r:aJ Z} {h0 h0' h h' h1 h2:Heap} {e:TypeId} {v:ae} {l:List Z}
end
section
variable {P:Program} {T:bL} {ov:Ov} {M X:Nat} {h0:Heap} {J:List (List aN)->Nat->Heap->Prop} {fy:ae}
structure Sm (L:Nat) (h h':Heap):Prop where
 size:h.size<=h'.size
 get:∀ B,B < h.size->B≠L->h'.get B=h.get B
theorem fB.sm {h h':Heap} (c:fB L h h'):Sm L h h':=⟨c.size,c.get⟩
theorem Ext.sm {h h':Heap} (x:Ext h h') (L:Nat):Sm L h h':=⟨x.size,λB hB _=>x.get B hB⟩
theorem Holds.sm {C:Nat} {h h':Heap} {b:bh} (q:Holds h C b) (s:Sm L h h') (ba:C≠L):Holds h' C b:=⟨eW q.lt s.size,(s.get C q.lt ba).trans q.get⟩
structure Stb (N M X:Nat) (J:List (List aN)->Nat->Heap->Prop):Prop where
 m:M < N
 x:X < N
 lt:∀ {done A h},J done A h->M < h.size/\X < h.size/\A < h.size
 sm:∀ {done A h1 h2 L},J done A h1->Sm L h1 h2->N<=L->L≠A->J done A h2
structure JJ (N M X:Nat) (J:List (List aN)->Nat->Heap->Prop) (done:List (List aN)) (A:Nat) (h:Heap):Prop where
 st:Stb N M X J
 j:J done A h
end
theorem Ow.sm {Z:Type} {r:aJ Z} {h0 h h':Heap} {e:TypeId} {A:Nat} {v:ae} {l:List Z} (rr:∀ h h' cs x,r.R h cs x->r.R h' cs x) (f:Ow r h0 h e A v l) (c:Sm L h h') (hL:L≠A) (hn:l=[]->∀ B o x n c,v=.slice (some ⟨B,o,x⟩) n c->B≠L):Ow r h0 h' e A v l:=by
 rcases f with ⟨e1,e2,e3⟩|⟨row,e1,e2,e3,e4,e5,e6,e7,e8⟩
 .refine .inl ⟨e1,e2,?_⟩
  rcases e3 with e3|⟨B,o,g1,g2,g3,row,u,ro,g4⟩
  .exact .inl e3
  .exact .inr ⟨B,o,g1,g2,eW g3 c.size,row,u,ro,by rw [c.get B g3 (hn e2 _ _ _ _ _ g1)];exact g4⟩
 .refine .inr ⟨row,e1,e2,e3,eW e4 c.size,by rw [c.get A e4 (Ne.symm hL)];exact e5,e6,e7,λi x hx=>?_⟩
  obtain ⟨cs,g1,g2⟩:=e8 i x hx
  exact ⟨cs,g1,rr _ _ _ _ g2⟩
theorem fP.sm {κ:Type} {kv:κ->ae} {h h':Heap} {A L:Nat} {met:List κ} (m:fP kv h A met) (c:Sm L h h') (ba:A≠L):fP kv h' A met:=by
 obtain ⟨es,cl,ks,m1,m2,m3⟩:=m
 exact ⟨es,cl,ks,m1.sm c ba,m2,m3⟩
structure RJ (hb:Heap) (N:Nat) (u1 u2:TypeId) (M X:Nat) (facts heads:aW) (A:Nat) (h:Heap):Prop where
 lt:M < h.size/\X < h.size/\A < h.size
 map:∃ met,fP ak.val h M met/\∀ a,a∈met↔a∈heads
 out:∃ (v:ae) (out:aW),Holds h X (.row [v] u1 false)/\(∀ a,a∈out↔a∈facts\/a∈heads)/\out.length<=facts.length+heads.length/\Ow aJ.atom hb h u2 A v out/\(out≠[]->A≠X/\A≠M)/\(out=[]->A=X/\∀ B o x n c,v=.slice (some ⟨B,o,x⟩) n c->B < N)
theorem RJ.sm {hb h1 h2:Heap} {N M X A L:Nat} {u1 u2:TypeId} {facts heads:aW} (f:RJ hb N u1 u2 M X facts heads A h1) (hM:M < N) (hX:X < N) (c:Sm L h1 h2) (hN:N<=L) (hL:L≠A):RJ hb N u1 u2 M X facts heads A h2:=by
 obtain ⟨⟨f1,f2,f3⟩,⟨met,m1,m2⟩,v,out,o1,o2,o3,o4,o5,o6⟩:=f
 have hs:=c.size
 exact ⟨by omega,⟨met,m1.sm c (by omega),m2⟩,v,out,o1.sm c (by omega),o2,o3,o4.sm (λ_ _ _ _ h=>h) c hL (λe B o x n c hv=>by have:=(o6 e).2 B o x n c hv;omega),o5,o6⟩
end Go.Am
namespace Go.Am
variable {n o:Nat} {cs vs:List ae}
structure aQ (D:List Nat) (h h':Heap):Prop where
 size:h.size<=h'.size
 get:∀ B,B < h.size->B ∉ D->h'.get B=h.get B
section
variable {D D':List Nat} {a b c h h1 h2:Heap} {A B w:Nat} {bs:List bh} {k:bh}
theorem aQ.refl (D:List Nat) (h:Heap):aQ D h h:=⟨bo _,λ_ _ _=>rfl⟩
theorem Ext.ck (x:Ext a b) (D:List Nat):aQ D a b:=⟨x.size,λB hB _=>x.get B hB⟩
theorem fB.ck (x:fB A a b) (hA:A∈D):aQ D a b:=⟨x.size,λB hB hD=>x.get B hB (λe=>hD (e ▸ hA))⟩
theorem aQ.lay (a:Heap) (bs:List bh) (w:Nat) (D:List Nat):aQ D a (a.lay bs w):=⟨by rw [bf];omega,λB hB _=>Er a bs w hB⟩
theorem aQ.trans (f:aQ D a b) (g:aQ D' b c) (hD:∀ B∈D',B∈D\/a.size<=B):aQ D a c :=
 ⟨il f.size g.size,λB hB hn=>(g.get B (eW hB f.size) (λhh=>(hD B hh).elim hn (λe=>by omega))).trans (f.get B hB hn)⟩
theorem aQ.over (f:aQ D a h1) (x:Ext (h1.lay bs w) h2):aQ D a h2:=(f.trans (aQ.lay h1 bs w []) (λ_ h=>nomatch h)).trans (x.ck []) (λ_ h=>nomatch h)
theorem aQ.iW (f:aQ D a h1) (x:fB A (h1.lay bs w) h2) (hA:A∈D\/a.size<=A):aQ D a h2 :=
 (f.trans (aQ.lay h1 bs w []) (λ_ h=>nomatch h)).trans (x.ck (D:=[A]) (by simp)) (λB hB=>by rw [iq.1 hB];exact hA)
theorem aQ.mono (f:aQ D a b) (hs:∀ B∈D,B∈D'):aQ D' a b:=⟨f.size,λB hB hn=>f.get B hB (λh=>hn (hs B h))⟩
theorem Holds.ck (q:Holds a B k) (f:aQ D a b) (hB:B ∉ D):Holds b B k:=⟨eW q.lt f.size,(f.get B q.lt hB).trans q.get⟩
theorem aQ.all (f:aQ [] a b):b8 a b:=⟨f.size,λB hB _=>f.get B hB (by simp)⟩
theorem Holds.dR (q:Holds a B k) (f:aQ [] a b):Holds b B k:=⟨eW q.lt f.size,(f.get B q.lt (by simp)).trans q.get⟩
def aM:List Nat->Heap->Heap
 | [],h=>h
 |A::D,h=>kill A (aM D h)
theorem iQ:∀ (D:List Nat) (h:Heap),(aM D h).size=h.size
 | [],_=>rfl
 |A::D,h=>by unfold aM;rw [Rk,iQ D h]
theorem tT:∀ (D:List Nat) (h:Heap),b8 (aM D h) h
 | [],h=>b8.refl h
 |A::D,h=>(ztg A _).trans (tT D h)
theorem pn:∀ {D:List Nat} {h:Heap} {B:Nat},B ∉ D->(aM D h).get B=h.get B
 | [],_,_,_=>rfl
 |A::D,h,B,hn=>by
  unfold aM
  rw [UL (λe=>hn (by rw [e];exact lj)),pn (λhh=>hn (gJ _ hh))]
theorem Aq:∀ {D:List Nat} {h:Heap} {B:Nat},B∈D->B < h.size->(aM D h).get B=some .dead
 |A::D,h,B,hm,hB=>by
  unfold aM
  by_cases he:B=A
  .subst he;exact zpi (by rw [iQ];exact hB)
  .rw [UL he]
   exact Aq ((dG.1 hm).resolve_left he) hB
theorem aQ.inc (f:aQ D a b) (hD:∀ B∈D',B∈D\/a.size<=B):b8 (aM D a) (aM D' b):=by
 refine ⟨by rw [iQ,iQ];exact f.size,λB hB hd=>?_⟩
 rw [iQ] at hB
 have hn:B ∉ D:=λhh=>hd (Aq hh hB)
 rw [pn hn,pn (λhh=>(hD B hh).elim hn (λe=>by omega))]
 exact f.get B hB hn
theorem zpa (z:b8 a b) (hD:∀ B∈D,a.size<=B):b8 a (aM D b):=⟨by rw [iQ];exact z.size,λB hB hd=>by rw [pn (λhh=>by have:=hD B hh;omega)];exact z.get B hB hd⟩
end
theorem Ow.aM {Z:Type} {r:aJ Z} {h0 h:Heap} {e:TypeId} {A:Nat} {v:ae} {l:List Z} {D:List Nat} (f:Ow r h0 h e A v l) (rr:∀ h h' cs x,r.R h cs x->r.R h' cs x) (hk:0 < r.k) (hD:∀ B∈D,B < h0.size):Sl r (aM D h) v l:=by
 have cT:∀ {B},h0.size<=B->B ∉ D:=λhB hh=>by have:=hD _ hh;omega
 rcases f with ⟨_,rfl,rfl|⟨B,o,rfl,g0,g2,row,u,ro,g3⟩⟩|⟨row,e1,e2,e3,e4,e5,e6,e7,e8⟩
 .exact .nil
 .exact .inr ⟨B,o,0,row,u,ro,rfl,sg _,.inl ⟨by unfold G;omega,bo _⟩,by rw [iQ];exact g2,by rw [pn (cT g0)];exact g3,λi x hx=>by simp at hx⟩
 .obtain ⟨c1,c2,c3⟩:=CN (k:=r.k) (q:=l.length) hk (by unfold G;omega)
  refine .inr ⟨A,0,_,row,e,false,e1,by unfold maxLen;omega,.inr ⟨by omega,c3,by omega⟩,by rw [iQ];exact e4,by rw [pn (cT e3)];exact e5,λi x hx=>?_⟩
  obtain ⟨cs,g1,g2⟩:=e8 i x hx
  exact ⟨cs,by simpa using g1,rr _ _ _ _ g2⟩
theorem Ow.turn {Z:Type} {r:aJ Z} {h0 h h':Heap} {e:TypeId} {A C:Nat} {v:ae} {l:List Z} {row:List ae} {u:TypeId} {ro:Bool} (rr:∀ h h' cs x,r.R h cs x->r.R h' cs x) (f:Ow r h0 h e A v l) (c:fB C h h') (hC:C≠A) (q:Holds h' C (.row row u ro)):Ow r h0 h' e A v l:=by
 rcases f with ⟨e1,e2,e3⟩|⟨row,e1,e2,e3,e4,e5,e6,e7,e8⟩
 .refine .inl ⟨e1,e2,?_⟩
  rcases e3 with e3|⟨B,o,g1,g0,g2,qh,u2,ro2,g3⟩
  .exact .inl e3
  .refine .inr ⟨B,o,g1,g0,eW g2 c.size,?_⟩
   by_cases hB:B=C
   .subst hB;exact ⟨_,_,_,q.get⟩
   .exact ⟨qh,u2,ro2,by rw [c.get B g2 hB];exact g3⟩
 .refine .inr ⟨row,e1,e2,e3,eW e4 c.size,by rw [c.get A e4 (Ne.symm hC)];exact e5,e6,e7,λi x hx=>?_⟩
  obtain ⟨cs,g1,g2⟩:=e8 i x hx
  exact ⟨cs,g1,rr _ _ _ _ g2⟩
def cJ {Z:Type} (k:Nat) (cell:Z->List ae) (h:Heap) (u:TypeId) (A:Nat) (v:ae) (l:List Z):Prop :=
 (v=.slice none 0 0/\l=[])\/∃ (q:Nat) (row:List ae),v=.slice (some ⟨A,0,none⟩) l.length (G*k+q)/\Holds h A (.row row u false)/\row.length=q*k/\l.length<=q/\q<=1000000000/\∀ (i:Nat) (x:Z),l[i]? = some x->cut row (i*k) k=some (cell x)
section
variable {Z:Type} {k:Nat} {cell:Z->List ae} {h h1 h2:Heap} {u:TypeId} {A:Nat} {v:ae} {l:List Z} {T:bL} {t e:TypeId} {K:aG} {bs:List bh} {w i:Nat} {x y:Z} {kd:IntKind}
theorem cJ.nil:cJ k cell h u A (.slice none 0 0) []:=.inl ⟨rfl,rfl⟩
theorem cJ.hold (f:cJ k cell h u A v l) (hO:∀ b,Holds h A b->Holds h1 A b):cJ k cell h1 u A v l:=by
 rcases f with f|⟨q,row,e1,e2,e3⟩
 .exact .inl f
 .exact .inr ⟨q,row,e1,hO _ e2,e3⟩
theorem cJ.over (f:cJ k cell h1 u A v l) (x:Ext (h1.lay bs w) h2):cJ k cell h2 u A v l:=f.hold λb q=>q.over x
theorem cJ.lay (f:cJ k cell h1 u A v l) (bs:List bh) (w:Nat):cJ k cell (h1.lay bs w) u A v l:=f.hold λb q=>q.on bs w
theorem cJ.bj {B:Nat} (f:cJ k cell h1 u A v l) (c:fB B (h1.lay bs w) h2) (ba:A≠B):cJ k cell h2 u A v l:=f.hold λb q=>q.bj c ba
theorem cJ.ck {D:List Nat} (f:cJ k cell h1 u A v l) (c:aQ D h1 h2) (ba:A ∉ D):cJ k cell h2 u A v l:=f.hold λb q=>q.ck c ba
theorem cJ.bt (f:cJ k cell h u A v l) (hd:T.desc t=some (.slice e)) (h2:Heap):Am.bt T t v h2=some (.int .i64 l.length):=by
 rcases f with ⟨rfl,rfl⟩|⟨q,row,rfl,_⟩
 .simp [Am.bt,hd]
 .simp [Am.bt,hd]
theorem cJ.shape (f:cJ k cell h u A v l):∃ a n c,v=.slice a n c:=by
 rcases f with ⟨rfl,rfl⟩|⟨q,row,rfl,_⟩
 .exact ⟨_,_,_,rfl⟩
 .exact ⟨_,_,_,rfl⟩
theorem cJ.nF (f:cJ k cell h u A v l):l.length<=1000000000:=by
 rcases f with ⟨_,rfl⟩|⟨q,row,_,_,_,h1,h2,_⟩
 .exact sg _
 .omega
theorem cJ.ix (f:cJ k cell h u A v l) (hd:T.desc t=some (.slice e)) (hs:cN T e=some k) (hi:i < l.length):jF T t v (.int kd (i:Nat))=some (.pointer (some ⟨A,i*k,none⟩)):=by
 rcases f with ⟨_,rfl⟩|⟨q,row,rfl,e2,e3,e4,e5,e6⟩
 .simp at hi
 .unfold jF
  simp only [hd]
  rw [aE ⟨by omega,by omega⟩,hs]
  simp
theorem cJ.row (f:cJ k cell h u A v l) (hx:l[i]? = some x):∃ row,Holds h A (.row row u false)/\cut row (i*k) k=some (cell x):=by
 rcases f with ⟨_,rfl⟩|⟨q,row,rfl,e2,e3,e4,e5,e6⟩
 .simp at hx
 .exact ⟨row,e2,e6 i x hx⟩
theorem cJ.lt (f:cJ k cell h u A v l) (ba:l≠[]):A < h.size:=by
 rcases f with ⟨_,rfl⟩|⟨q,row,rfl,e2,_⟩
 .exact absurd rfl ba
 .exact e2.lt
theorem zhZ (hb:o+vs.length<=cs.length) (j:Nat):(aF cs o vs)[j]? = if j < o then cs[j]? else if j < o+vs.length then vs[j - o]? else cs[j]? := by
 unfold aF
 rw [jD,xj,fj,Nat.min_eq_left (by omega)]
 by_cases h1:j < o
 .rw [aE h1,aE h1,lX,aE h1]
 .rw [az h1,az h1,xj]
  by_cases h2:j < o+vs.length
  .rw [aE (by omega),aE h2]
  .rw [az (by omega),az h2,lA]
   congr 1
   omega
theorem zhn (hb:o+vs.length<=cs.length):(aF cs o vs).length=cs.length:=by
 unfold aF;rw [cW,cW,fj,lk];omega
theorem zjj {row:List ae} {off:Nat} (hc:cut row o n=some cs) (hb:off+vs.length<=n):cut (aF row (o+off) vs) o n=some (aF cs off vs):=by
 unfold cut at hc ⊢
 split at hc
 .rename_i hle
  simp only [dY] at hc
  have mS:cs.length=n:=by rw [<- hc,fj,lk];omega
  rw [aE (by rw [zhn (by omega)];exact hle)]
  congr 1
  apply r8
  intro j
  rw [lX,lA,zhZ (by omega),zhZ (by omega),<- hc,lX,lA]
  by_cases hj:j < n
  .rw [aE hj,aE hj]
   by_cases h1:j < off
   .rw [aE (by omega),aE h1]
   .rw [az (by omega),az h1]
    by_cases h2:j < off+vs.length
    .rw [aE (by omega),aE h2]
     congr 1
     omega
    .rw [az (by omega),az h2]
  .rw [az hj,az hj,az (by omega),az (by omega)]
 .cases hc
theorem zfd {row:List ae} {o2:Nat} (hc:cut row o n=some cs) (hb:o2+vs.length<=row.length) (hd:o+n<=o2\/o2+vs.length<=o):cut (aF row o2 vs) o n=some cs:=by
 unfold cut at hc ⊢
 split at hc
 .rename_i hle
  simp only [dY] at hc
  rw [aE (by rw [zhn hb];exact hle),<- hc]
  congr 1
  apply r8
  intro j
  rw [lX,lX,lA,lA,zhZ hb]
  by_cases hj:j < n
  .rw [aE hj,aE hj]
   rcases hd with hd|hd
   .rw [aE (by omega)]
   .rw [az (by omega),az (by omega)]
  .rw [az hj,az hj]
 .cases hc
theorem cJ.store {off:Nat} {val:ae} (kF:∀ x,(cell x).length=k) (f:cJ k cell h1 u A v l) (hx:l[i]? = some x) (hs:cN T t=some n) (tG:off+n<=k) (hv:val.cells.toList=vs) (hl:vs.length=n) (bD:vs.all one=true) (hy:aF (cell x) off vs=cell y)
 (hK:∀ h',cJ k cell h' u A v (l.set i y)->fB A (h1.lay bs w) h'->K undef h'):iH (iS T t (.pointer (some ⟨A,i*k+off,none⟩)) val (h1.lay bs w)) K:=by
 have hi:i < l.length:=(dz.1 hx).1
 rcases f with ⟨_,rfl⟩|⟨q,row,rfl,e2,e3,e4,e5,e6⟩
 .simp at hi
 have hb:i*k+off+n<=row.length:=by
  rw [e3]
  calc i*k+off+n<=i*k+k:=by omega
   _=(i+1)*k:=by rw [r9]
   _<=q*k:=py _ (by omega)
 have hg:(h1.lay bs w).get A=some (.row row u false):=e2.lay bs w
 have hA:A < (h1.lay bs w).size:=(e2.on bs w).lt
 have dS:val.cells.size=n:=by rw [<- hl,<- hv];simp
 have he:iS T t (.pointer (some ⟨A,i*k+off,none⟩)) val (h1.lay bs w)=some ((h1.lay bs w).set A (.row (aF row (i*k+off) vs) u false)):=by
  unfold iS
  simp only [hs,dX]
  rw [aE dS,hv]
  unfold kH
  rw [hg]
  simp only
  rw [aE (by simp only [dP,gY];exact ⟨by omega,bD⟩)]
 rw [he]
 refine hK _ (.inr ⟨q,aF row (i*k+off) vs,by rw [nU],Eu hA,?_,by rw [nU];exact e4,e5,λj z hz=>?_⟩) (zu hA)
 .unfold aF;rw [cW,cW,fj,lk];omega
 .rw [sX] at hz
  by_cases dF:i=j
  .rw [aE dF,aE hi] at hz
   cases hz
   rw [<- dF,<- hy]
   exact zjj (e6 i x hx) (by omega)
  .rw [az dF] at hz
   refine zfd (e6 j z hz) (by omega) ?_
   rcases Nat.lt_or_gt_of_ne dF with h|h
   .right
    have:(i+1)*k<=j*k:=py _ (by omega)
    rw [r9] at this
    omega
   .left
    have:(j+1)*k<=i*k:=py _ (by omega)
    rw [r9] at this
    omega
theorem cJ.qi {val:ae} (kF:∀ x,(cell x).length=k) (f:cJ k cell h1 u A v l) (hx:l[i]? = some x) (hs:cN T t=some n) (tG:n<=k) (hv:val.cells.toList=vs) (hl:vs.length=n) (bD:vs.all one=true) (hy:aF (cell x) 0 vs=cell y)
 (hK:∀ h',cJ k cell h' u A v (l.set i y)->fB A (h1.lay bs w) h'->K undef h'):iH (iS T t (.pointer (some ⟨A,i*k,none⟩)) val (h1.lay bs w)) K:=cJ.store (off:=0) kF f hx hs (by omega) hv hl bD hy hK
theorem cJ.qW {x:ae} {y:Z} (f:cJ 1 cell h1 u A v l) (hx:l[i]? = some y) (hc:cell y=[x]) (bs:List bh) (w:Nat):Kf ((h1.lay bs w).get A) (i*1)=some x:=by
 obtain ⟨row,q,c⟩:=f.row hx
 rw [hc] at c
 have hg:=q.lay bs w
 rw [hg]
 unfold cut at c
 split at c
 .rename_i hle
  simp only [dY] at c
  show row[i*1]? = some x
  have:=congrArg (λl=>l[0]?) c
  simp only [lX,lA] at this
  simpa using this
 .cases c
theorem Up {q:Nat} (hk:0 < k) (hq:q<=1000000000):(G*k+q) % G=q/\(G*k+q) / G=k/\G<=G*k+q:=by
 have hG:1000000000 < G:=by unfold G;omega
 refine ⟨?_,?_,?_⟩
 .rw [Nat.mul_add_mod,EO (by omega)]
 .rw [Nat.mul_add_div (by omega),Nat.div_eq_of_lt (by omega),jh]
 .have:G*1<=G*k:=Nat.mul_le_mul_left _ hk
  omega
theorem cJ.app {bytes j:Nat} {z:List ae} {u2:TypeId} {ro:Bool} {c:Nat} (kF:∀ x,(cell x).length=k) (bn:(cell x).all one=true) (hk:0 < k) (hd:T.desc t=some (.slice u)) (hi:T.info u=some (k,bytes,z)) (f:cJ k cell h1 u A v l) (hg:bs[j]? = some (.row (cell x) u2 ro)) (hl:l.length < 900000000) (hb:(l.length+1)*bytes<=140737488355328)
 (hK:∀ v' h' A',cJ k cell h' u A' v' (l++[x])->(A'=A/\A < h1.size\/A'=(h1.lay bs w).size)->(v=.slice none 0 0->Ext (h1.lay bs w) h')->(A < h1.size->fB A (h1.lay bs w) h')->K v' h') :
 dx (iP T t v (.slice (some ⟨h1.size+j,0,none⟩) 1 c) (h1.lay bs w)) K:=by
 have tD:(h1.lay bs w).get (h1.size+j)=some (.row (cell x) u2 ro):=by rw [gH];exact hg
 have BO:j < bs.length:=(dz.1 hg).1
 have hs:fT (.slice (some ⟨h1.size+j,0,none⟩) 1 c) k (h1.lay bs w)=some (1,cell x):=by
  unfold fT nQ
  simp only [Nat.one_mul]
  rw [az (by omega)]
  unfold gS
  rw [tD]
  simp only
  unfold cut
  rw [aE (by rw [kF];omega),zO,fX (by rw [kF];exact bo _)]
  rfl
 have hU:∀ (h2:Heap) (row:List ae),row.length=(l.length+1)*k->(∀ (i:Nat) (y:Z),(l++[x])[i]? = some y->cut row (i*k) k=some (cell y)) ->
  cJ k cell (h2.push (.row row u false)) u h2.size (.slice (some ⟨h2.size,0,none⟩) (l.length+1) (G*k+(l.length+1))) (l++[x]):=λh2 row e1 e2 =>
  .inr ⟨l.length+1,row,by rw [cW];rfl,⟨by rw [Heap.size_push];omega,by rw [Heap.bx,aE rfl]⟩,e1,by rw [cW];exact bo _,by omega,e2⟩
 rcases f with ⟨rfl,rfl⟩|⟨q,row,rfl,e2,e3,e4,e5,e6⟩
 .have key:=zwt hd hi hk hs (by omega) bn (by simpa using hb) (by omega)
  rw [key]
  refine hK _ _ _ (hU _ (cell x) (by rw [kF];simp) (λi y hy=>?_)) (.inr rfl) (λ_=>?_) (λhA=>?_)
  .cases i with
   |zero =>
    simp at hy
    subst hy
    unfold cut
    rw [aE (by rw [kF];omega),Nat.zero_mul,zO,fX (by rw [kF];exact bo _)]
   |succ i=>simp at hy
  .exact Ext.push _ _
  .exact (Ext.push _ _).iW
 .obtain ⟨c1,c2,c3⟩:=Up (k:=k) (q:=q) hk e5
  have qy:(h1.lay bs w).get A=some (.row row u false):=e2.lay bs w
  have hA:A < (h1.lay bs w).size:=(e2.on bs w).lt
  unfold iP
  simp only [hd,hi,hs,dX]
  rw [az (by omega),az (by
   simp only [qt,gY,C9,not_or]
   refine ⟨⟨⟨by omega,by omega⟩,by omega⟩,by rw [bn];decide⟩),c1]
  by_cases hq:l.length+1<=q
  .rw [aE hq,aE (by simp [c2])]
   have qw:0+l.length*k+(cell x).length<=row.length:=by
    rw [e3,kF]
    have:(l.length+1)*k<=q*k:=py _ hq
    rw [r9] at this
    omega
   have hw:kH A (0+l.length*k) (cell x) (h1.lay bs w)=some ((h1.lay bs w).set A (.row (aF row (0+l.length*k) (cell x)) u false)):=by
    unfold kH
    rw [qy]
    simp only
    rw [aE (by simp only [dP,gY];exact ⟨qw,bn⟩)]
   rw [hw]
   refine hK _ _ A (.inr ⟨q,aF row (0+l.length*k) (cell x),by rw [cW];rfl,Eu hA,?_,by rw [cW];exact hq,e5,λj z hz=>?_⟩) (.inl ⟨rfl,e2.lt⟩) (λh=>by cases h) (λ_=>zu hA)
   .unfold aF;rw [cW,cW,fj,lk];omega
   .rw [iu] at qw ⊢
    rw [xj] at hz
    by_cases hj:j < l.length
    .rw [aE hj] at hz
     refine zfd (e6 j z hz) qw (.inl ?_)
     have:(j+1)*k<=l.length*k:=py _ hj
     rw [r9] at this
     exact this
    .rw [az hj] at hz
     have BO:j=l.length:=by
      have:=(dz.1 hz).1
      simp only [sW] at this
      omega
     subst BO
     rw [Df,AH] at hz
     cases hz
     unfold cut aF
     rw [aE (by rw [cW,cW,fj,lk,kF];rw [kF] at qw;omega),jD,R9,fj,zE (by rw [fj];omega),qu]
     rw [show l.length*k - min (l.length*k) row.length=0 by omega,zO,List.take_append_of_le_length (by rw [kF];exact bo _),fX (by rw [kF];exact bo _)]
  .rw [az hq]
   have vF:l.length=q:=by omega
   have hc:nQ (.slice (some ⟨A,0,none⟩) l.length (G*k+q)) k (h1.lay bs w)=some row:=by
    unfold nQ
    simp only
    by_cases h0:l.length*k=0
    .rw [aE h0]
     congr 1
     rw [vF,<- e3] at h0
     exact (zG.1 h0).symm
    .rw [az h0]
     unfold gS
     rw [qy]
     simp only
     unfold cut
     rw [aE (by rw [e3,vF];omega),zO,fX (by rw [e3,vF];exact bo _)]
   rw [hc]
   simp only [dX]
   rw [az (by omega)]
   simp only [qy]
   rw [aE (by simp [c2])]
   have jT:((h1.lay bs w).set A .dead).size=(h1.lay bs w).size:=Heap.size_set _ _ _
   have hn:=hU ((h1.lay bs w).set A .dead) (row++cell x) (by rw [cW,kF,e3,vF,r9]) (λi y hy=>by
    rw [xj] at hy
    by_cases hj:i < l.length
    .rw [aE hj] at hy
     exact zrj (e6 i y hy)
    .rw [az hj] at hy
     have BO:i=l.length:=by
      have:=(dz.1 hy).1
      simp only [sW] at this
      omega
     subst BO
     rw [Df,AH] at hy
     cases hy
     have:=zmE (a:=row) (b:=cell x) (o:=0) (n:=k) (c:=cell x) (by unfold cut;rw [aE (by rw [kF];omega),zO,fX (by rw [kF];exact bo _)])
     rw [jh,e3,<- vF] at this
     exact this)
   rw [jT] at hn
   exact hK _ _ _ hn (.inr rfl) (λh=>by cases h) (λ_=>((zu hA).trans (Ext.push _ _).iW))
theorem cJ.pop {n:Nat} (hk:0 < k) (hd:T.desc t=some (.slice u)) (hs:cN T u=some k) (f:cJ k cell h u A v l) (hn:n<=l.length) (ba:l≠[]):∃ v',jY T t v none (some (.int kd (n:Nat))) none=some v'/\cJ k cell h u A v' (l.take n):=by
 rcases f with ⟨_,rfl⟩|⟨q,row,rfl,e2,e3,e4,e5,e6⟩
 .exact absurd rfl ba
 .obtain ⟨c1,c2,c3⟩:=Up (k:=k) (q:=q) hk e5
  refine ⟨.slice (some ⟨A,0,none⟩) n (G*k+q),?_,.inr ⟨q,row,by rw [fj,Nat.min_eq_left hn],e2,e3,by rw [fj];omega,e5,λi x hx=>e6 i x ?_⟩⟩
  .unfold jY qI zF
   simp only [hd,hs,dX]
   rw [az (by omega)]
   simp only [c2,if_true,c1]
   rw [aE (by omega)]
   simp
  .rw [lX] at hx
   split at hx
   .exact hx
   .cases hx
end
end Go.Am
