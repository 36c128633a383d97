/- Frames of several blocks; rows of a fixed kind that are turned in place. No condition. -/
import Derived.Test.YtmamldleclamjaaGreatDoorGIfx
import Derived.Test.YtmamldleclamjaaGreatDoorG27
set_option linter.unusedSimpArgs false
set_option linter.unusedVariables false
namespace Go.Am
variable {n o:Nat} {cs vs:List ah}
structure aM (D:List Nat) (h h':Heap):Prop where
 size:h.size<=h'.size
 get:∀ B,B < h.size->B ∉ D->h'.get B=h.get B
section
variable {D D':List Nat} {a b c h h1 h2:Heap} {A B w:Nat} {bs:List ba} {k:ba}
theorem aM.refl (D:List Nat) (h:Heap):aM D h h:=⟨bo _,λ_ _ _=>rfl⟩
theorem Ext.cT (x:Ext a b) (D:List Nat):aM D a b:=⟨x.size,λB hB _=>x.get B hB⟩
theorem eX.cT (x:eX A a b) (hA:A∈D):aM D a b:=⟨x.size,λB hB hD=>x.get B hB (λe=>hD (e ▸ hA))⟩
theorem aM.lay (a:Heap) (bs:List ba) (w:Nat) (D:List Nat):aM D a (a.lay bs w):=⟨by rw [bd];omega,λB hB _=>uo a bs w hB⟩
theorem aM.trans (f:aM D a b) (g:aM D' b c) (hD:∀ B∈D',B∈D\/a.size<=B):aM D a c :=
 ⟨hY f.size g.size,λB hB hn=>(g.get B (dJ hB f.size) (λhh=>(hD B hh).elim hn (λe=>by omega))).trans (f.get B hB hn)⟩
theorem aM.over (f:aM D a h1) (x:Ext (h1.lay bs w) h2):aM D a h2:=(f.trans (aM.lay h1 bs w []) (λ_ h=>nomatch h)).trans (x.cT []) (λ_ h=>nomatch h)
theorem aM.ji (f:aM D a h1) (x:eX A (h1.lay bs w) h2) (hA:A∈D\/a.size<=A):aM D a h2 :=
 (f.trans (aM.lay h1 bs w []) (λ_ h=>nomatch h)).trans (x.cT (D:=[A]) (by simp)) (λB hB=>by rw [fH.1 hB];exact hA)
theorem aM.mono (f:aM D a b) (hs:∀ B∈D,B∈D'):aM D' a b:=⟨f.size,λB hB hn=>f.get B hB (λh=>hn (hs B h))⟩
theorem Holds.cT (q:Holds a B k) (f:aM D a b) (hB:B ∉ D):Holds b B k:=⟨dJ q.lt f.size,(f.get B q.lt hB).trans q.get⟩
theorem aM.all (f:aM [] a b):bH a b:=⟨f.size,λB hB _=>f.get B hB (by simp)⟩
theorem Holds.cY (q:Holds a B k) (f:aM [] a b):Holds b B k:=⟨dJ q.lt f.size,(f.get B q.lt (by simp)).trans q.get⟩
def aD:List Nat->Heap->Heap
 | [],h=>h
 |A::D,h=>kill A (aD D h)
theorem fX:∀ (D:List Nat) (h:Heap),(aD D h).size=h.size
 | [],_=>rfl
 |A::D,h=>by unfold aD;rw [r7,fX D h]
theorem nu:∀ (D:List Nat) (h:Heap),bH (aD D h) h
 | [],h=>bH.refl h
 |A::D,h=>(I7 A _).trans (nu D h)
theorem nN:∀ {D:List Nat} {h:Heap} {B:Nat},B ∉ D->(aD D h).get B=h.get B
 | [],_,_,_=>rfl
 |A::D,h,B,hn=>by
  unfold aD
  rw [vP (λe=>hn (by rw [e];exact fZ)),nN (λhh=>hn (eQ _ hh))]
theorem yV:∀ {D:List Nat} {h:Heap} {B:Nat},B∈D->B < h.size->(aD D h).get B=some .dead
 |A::D,h,B,hm,hB=>by
  unfold aD
  by_cases he:B=A
  .subst he;exact G2 (by rw [fX];exact hB)
  .rw [vP he]
   exact yV ((cJ.1 hm).resolve_left he) hB
theorem aM.inc (f:aM D a b) (hD:∀ B∈D',B∈D\/a.size<=B):bH (aD D a) (aD D' b):=by
 refine ⟨by rw [fX,fX];exact f.size,λB hB hd=>?_⟩
 rw [fX] at hB
 have hn:B ∉ D:=λhh=>hd (yV hh hB)
 rw [nN hn,nN (λhh=>(hD B hh).elim hn (λe=>by omega))]
 exact f.get B hB hn
theorem zjH (z:bH a b) (hD:∀ B∈D,a.size<=B):bH a (aD D b):=⟨by rw [fX];exact z.size,λB hB hd=>by rw [nN (λhh=>by have:=hD B hh;omega)];exact z.get B hB hd⟩
theorem zy1 {B:Heap} (hD:∀ A∈D,A < h.size->B.get A=some .dead\/B.size<=A) (i:bH B h):bH B (aD D h):=by
 refine ⟨by rw [fX];exact i.size,λC hC hd=>?_⟩
 rw [nN (λhh=>(hD C hh (dJ hC i.size)).elim hd (λe=>by omega))]
 exact i.get C hC hd
end
theorem Ow.aD {Z:Type} {r:aK Z} {h0 h:Heap} {e:TypeId} {A:Nat} {v:ah} {l:List Z} {D:List Nat} (f:Ow r h0 h e A v l) (gg:∀ h h' cs x,r.R h cs x->r.R h' cs x) (hk:0 < r.k) (hD:∀ B∈D,B < h0.size):Sl r (aD D h) v l:=by
 have dN:∀ {B},h0.size<=B->B ∉ D:=λhB hh=>by have:=hD _ hh;omega
 rcases f with ⟨_,rfl,rfl|⟨B,o,rfl,g0,g2,row,u,ro,g3⟩⟩|⟨row,e1,e2,e3,e4,e5,e6,e7,e8⟩
 .exact .nil
 .exact .inr ⟨B,o,0,row,u,ro,rfl,i6 _,.inl ⟨by unfold G;omega,bo _⟩,by rw [fX];exact g2,by rw [nN (dN g0)];exact g3,λi x hx=>by simp at hx⟩
 .obtain ⟨c1,c2,c3⟩:=B1 (k:=r.k) (q:=l.length) hk (by unfold G;omega)
  refine .inr ⟨A,0,_,row,e,false,e1,by unfold maxLen;omega,.inr ⟨by omega,c3,by omega⟩,by rw [fX];exact e4,by rw [nN (dN e3)];exact e5,λi x hx=>?_⟩
  obtain ⟨cs,g1,g2⟩:=e8 i x hx
  exact ⟨cs,by simpa using g1,gg _ _ _ _ g2⟩
theorem Ow.turn {Z:Type} {r:aK Z} {h0 h h':Heap} {e:TypeId} {A C:Nat} {v:ah} {l:List Z} {row:List ah} {u:TypeId} {ro:Bool} (gg:∀ h h' cs x,r.R h cs x->r.R h' cs x) (f:Ow r h0 h e A v l) (c:eX C h h') (hC:C≠A) (q:Holds h' C (.row row u ro)):Ow r h0 h' e A v l:=by
 rcases f with ⟨e1,e2,e3⟩|⟨row,e1,e2,e3,e4,e5,e6,e7,e8⟩
 .refine .inl ⟨e1,e2,?_⟩
  rcases e3 with e3|⟨B,o,g1,g0,g2,pX,u2,ro2,g3⟩
  .exact .inl e3
  .refine .inr ⟨B,o,g1,g0,dJ g2 c.size,?_⟩
   by_cases hB:B=C
   .subst hB;exact ⟨_,_,_,q.get⟩
   .exact ⟨pX,u2,ro2,by rw [c.get B g2 hB];exact g3⟩
 .refine .inr ⟨row,e1,e2,e3,dJ e4 c.size,by rw [c.get A e4 (Ne.symm hC)];exact e5,e6,e7,λi x hx=>?_⟩
  obtain ⟨cs,g1,g2⟩:=e8 i x hx
  exact ⟨cs,g1,gg _ _ _ _ g2⟩
def cN {Z:Type} (k:Nat) (cell:Z->List ah) (h:Heap) (u:TypeId) (A:Nat) (v:ah) (l:List Z):Prop :=
 (v=.slice none 0 0/\l=[])\/∃ (q:Nat) (row:List ah),v=.slice (some ⟨A,0,none⟩) l.length (G*k+q)/\Holds h A (.row row u false)/\row.length=q*k/\l.length<=q/\q<=1000000000/\∀ (i:Nat) (x:Z),l[i]? = some x->cut row (i*k) k=some (cell x)
section
variable {Z:Type} {k:Nat} {cell:Z->List ah} {h h1 h2:Heap} {u:TypeId} {A:Nat} {v:ah} {l:List Z} {T:bO} {t e:TypeId} {K:aI} {bs:List ba} {w i:Nat} {x y:Z} {kd:IntKind}
theorem cN.nil:cN k cell h u A (.slice none 0 0) []:=.inl ⟨rfl,rfl⟩
theorem cN.hold (f:cN k cell h u A v l) (hO:∀ b,Holds h A b->Holds h1 A b):cN k cell h1 u A v l:=by
 rcases f with f|⟨q,row,e1,e2,e3⟩
 .exact .inl f
 .exact .inr ⟨q,row,e1,hO _ e2,e3⟩
theorem cN.over (f:cN k cell h1 u A v l) (x:Ext (h1.lay bs w) h2):cN k cell h2 u A v l:=f.hold λb q=>q.over x
theorem cN.lay (f:cN k cell h1 u A v l) (bs:List ba) (w:Nat):cN k cell (h1.lay bs w) u A v l:=f.hold λb q=>q.on bs w
theorem cN.bK {B:Nat} (f:cN k cell h1 u A v l) (c:eX B (h1.lay bs w) h2) (aS:A≠B):cN k cell h2 u A v l:=f.hold λb q=>q.bK c aS
theorem cN.cT {D:List Nat} (f:cN k cell h1 u A v l) (c:aM D h1 h2) (aS:A ∉ D):cN k cell h2 u A v l:=f.hold λb q=>q.cT c aS
theorem cN.bn (f:cN k cell h u A v l) (hd:T.desc t=some (.slice e)) (h2:Heap):Am.bn T t v h2=some (.int .i64 l.length):=by
 rcases f with ⟨rfl,rfl⟩|⟨q,row,rfl,_⟩
 .simp [Am.bn,hd]
 .simp [Am.bn,hd]
theorem cN.shape (f:cN k cell h u A v l):∃ a n c,v=.slice a n c:=by
 rcases f with ⟨rfl,rfl⟩|⟨q,row,rfl,_⟩
 .exact ⟨_,_,_,rfl⟩
 .exact ⟨_,_,_,rfl⟩
theorem cN.nk (f:cN k cell h u A v l):l.length<=1000000000:=by
 rcases f with ⟨_,rfl⟩|⟨q,row,_,_,_,h1,h2,_⟩
 .exact i6 _
 .omega
theorem cN.ix (f:cN k cell h u A v l) (hd:T.desc t=some (.slice e)) (hs:di T e=some k) (hi:i < l.length):kF T t v (.int kd (i:Nat))=some (.pointer (some ⟨A,i*k,none⟩)):=by
 rcases f with ⟨_,rfl⟩|⟨q,row,rfl,e2,e3,e4,e5,e6⟩
 .simp at hi
 .unfold kF
  simp only [hd]
  rw [aB ⟨by omega,by omega⟩,hs]
  simp
theorem cN.row (f:cN k cell h u A v l) (hx:l[i]? = some x):∃ row,Holds h A (.row row u false)/\cut row (i*k) k=some (cell x):=by
 rcases f with ⟨_,rfl⟩|⟨q,row,rfl,e2,e3,e4,e5,e6⟩
 .simp at hx
 .exact ⟨row,e2,e6 i x hx⟩
theorem cN.at (hk:∀ x,(cell x).length=k) (f:cN k cell h u A v l) (hx:l[i]? = some x):eI h (.pointer (some ⟨A,i*k,none⟩)) (cell x):=by
 obtain ⟨row,q,c⟩:=f.row hx
 exact ⟨A,_,row,u,false,rfl,q.lt,q.get,by rw [hk];exact c⟩
theorem cN.lt (f:cN k cell h u A v l) (aS:l≠[]):A < h.size:=by
 rcases f with ⟨_,rfl⟩|⟨q,row,rfl,e2,_⟩
 .exact absurd rfl aS
 .exact e2.lt
theorem zhD (hb:o+vs.length<=cs.length) (j:Nat):(aF cs o vs)[j]? = if j < o then cs[j]? else if j < o+vs.length then vs[j - o]? else cs[j]? := by
 unfold aF
 rw [ka,zh,fw,Nat.min_eq_left (by omega)]
 by_cases h1:j < o
 .rw [aB h1,aB h1,mc,aB h1]
 .rw [aA h1,aA h1,zh]
  by_cases h2:j < o+vs.length
  .rw [aB (by omega),aB h2]
  .rw [aA (by omega),aA h2,kL]
   congr 1
   omega
theorem zg3 (hb:o+vs.length<=cs.length):(aF cs o vs).length=cs.length:=by
 unfold aF;rw [dI,dI,fw,jM];omega
theorem zjr {row:List ah} {off:Nat} (hc:cut row o n=some cs) (hb:off+vs.length<=n):cut (aF row (o+off) vs) o n=some (aF cs off vs):=by
 unfold cut at hc ⊢
 split at hc
 .rename_i hle
  simp only [eh] at hc
  have A8:cs.length=n:=by rw [<- hc,fw,jM];omega
  rw [aB (by rw [zg3 (by omega)];exact hle)]
  congr 1
  apply sq
  intro j
  rw [mc,kL,zhD (by omega),zhD (by omega),<- hc,mc,kL]
  by_cases hj:j < n
  .rw [aB hj,aB hj]
   by_cases h1:j < off
   .rw [aB (by omega),aB h1]
   .rw [aA (by omega),aA h1]
    by_cases h2:j < off+vs.length
    .rw [aB (by omega),aB h2]
     congr 1
     omega
    .rw [aA (by omega),aA h2]
  .rw [aA hj,aA hj,aA (by omega),aA (by omega)]
 .cases hc
theorem zeZ {row:List ah} {o2:Nat} (hc:cut row o n=some cs) (hb:o2+vs.length<=row.length) (hd:o+n<=o2\/o2+vs.length<=o):cut (aF row o2 vs) o n=some cs:=by
 unfold cut at hc ⊢
 split at hc
 .rename_i hle
  simp only [eh] at hc
  rw [aB (by rw [zg3 hb];exact hle),<- hc]
  congr 1
  apply sq
  intro j
  rw [mc,mc,kL,kL,zhD hb]
  by_cases hj:j < n
  .rw [aB hj,aB hj]
   rcases hd with hd|hd
   .rw [aB (by omega)]
   .rw [aA (by omega),aA (by omega)]
  .rw [aA hj,aA hj]
 .cases hc
theorem cN.store {off:Nat} {val:ah} (kX:∀ x,(cell x).length=k) (f:cN k cell h1 u A v l) (hx:l[i]? = some x) (hs:di T t=some n) (tc:off+n<=k) (hv:val.cells.toList=vs) (hl:vs.length=n) (bx:vs.all one=true) (hy:aF (cell x) off vs=cell y)
 (hK:∀ h',cN k cell h' u A v (l.set i y)->eX A (h1.lay bs w) h'->K undef h'):iq (iO T t (.pointer (some ⟨A,i*k+off,none⟩)) val (h1.lay bs w)) K:=by
 have hi:i < l.length:=(dH.1 hx).1
 rcases f with ⟨_,rfl⟩|⟨q,row,rfl,e2,e3,e4,e5,e6⟩
 .simp at hi
 have hb:i*k+off+n<=row.length:=by
  rw [e3]
  calc i*k+off+n<=i*k+k:=by omega
   _=(i+1)*k:=by rw [rF]
   _<=q*k:=qj _ (by omega)
 have hg:(h1.lay bs w).get A=some (.row row u false):=e2.lay bs w
 have hA:A < (h1.lay bs w).size:=(e2.on bs w).lt
 have dF:val.cells.size=n:=by rw [<- hl,<- hv];simp
 have he:iO T t (.pointer (some ⟨A,i*k+off,none⟩)) val (h1.lay bs w)=some ((h1.lay bs w).set A (.row (aF row (i*k+off) vs) u false)):=by
  unfold iO
  simp only [hs,dX]
  rw [aB dF,hv]
  unfold lY
  rw [hg]
  simp only
  rw [aB (by simp only [eo,jl];exact ⟨by omega,bx⟩)]
 rw [he]
 refine hK _ (.inr ⟨q,aF row (i*k+off) vs,by rw [nB],Du hA,?_,by rw [nB];exact e4,e5,λj z hz=>?_⟩) (yY hA)
 .unfold aF;rw [dI,dI,fw,jM];omega
 .rw [rE] at hz
  by_cases dp:i=j
  .rw [aB dp,aB hi] at hz
   cases hz
   rw [<- dp,<- hy]
   exact zjr (e6 i x hx) (by omega)
  .rw [aA dp] at hz
   refine zeZ (e6 j z hz) (by omega) ?_
   rcases Nat.lt_or_gt_of_ne dp with h|h
   .right
    have:(i+1)*k<=j*k:=qj _ (by omega)
    rw [rF] at this
    omega
   .left
    have:(j+1)*k<=i*k:=qj _ (by omega)
    rw [rF] at this
    omega
theorem cN.pZ {val:ah} (kX:∀ x,(cell x).length=k) (f:cN k cell h1 u A v l) (hx:l[i]? = some x) (hs:di T t=some n) (tc:n<=k) (hv:val.cells.toList=vs) (hl:vs.length=n) (bx:vs.all one=true) (hy:aF (cell x) 0 vs=cell y)
 (hK:∀ h',cN k cell h' u A v (l.set i y)->eX A (h1.lay bs w) h'->K undef h'):iq (iO T t (.pointer (some ⟨A,i*k,none⟩)) val (h1.lay bs w)) K:=cN.store (off:=0) kX f hx hs (by omega) hv hl bx hy hK
theorem cN.qL {x:ah} {y:Z} (f:cN 1 cell h1 u A v l) (hx:l[i]? = some y) (hc:cell y=[x]) (bs:List ba) (w:Nat):JN ((h1.lay bs w).get A) (i*1)=some x:=by
 obtain ⟨row,q,c⟩:=f.row hx
 rw [hc] at c
 have hg:=q.lay bs w
 rw [hg]
 unfold cut at c
 split at c
 .rename_i hle
  simp only [eh] at c
  show row[i*1]? = some x
  have:=congrArg (λl=>l[0]?) c
  simp only [mc,kL] at this
  simpa using this
 .cases c
theorem zof {q:Nat} (hk:0 < k) (hq:q<=1000000000):(G*k+q) % G=q/\(G*k+q) / G=k/\G<=G*k+q:=by
 have hG:1000000000 < G:=by unfold G;omega
 refine ⟨?_,?_,?_⟩
 .rw [Nat.mul_add_mod,HC (by omega)]
 .rw [Nat.mul_add_div (by omega),Nat.div_eq_of_lt (by omega),i0]
 .have:G*1<=G*k:=Nat.mul_le_mul_left _ hk
  omega
theorem cN.app {bytes j:Nat} {z:List ah} {u2:TypeId} {ro:Bool} {c:Nat} (kX:∀ x,(cell x).length=k) (bt:(cell x).all one=true) (hk:0 < k) (hd:T.desc t=some (.slice u)) (hi:T.info u=some (k,bytes,z)) (f:cN k cell h1 u A v l) (hg:bs[j]? = some (.row (cell x) u2 ro)) (hl:l.length < 900000000) (hb:(l.length+1)*bytes<=140737488355328)
 (hK:∀ v' h' A',cN k cell h' u A' v' (l++[x])->(A'=A/\A < h1.size\/A'=(h1.lay bs w).size)->(v=.slice none 0 0->Ext (h1.lay bs w) h')->(A < h1.size->eX A (h1.lay bs w) h')->K v' h') :
 dw (iy T t v (.slice (some ⟨h1.size+j,0,none⟩) 1 c) (h1.lay bs w)) K:=by
 have sS:(h1.lay bs w).get (h1.size+j)=some (.row (cell x) u2 ro):=by rw [iB];exact hg
 have Be:j < bs.length:=(dH.1 hg).1
 have hs:fN (.slice (some ⟨h1.size+j,0,none⟩) 1 c) k (h1.lay bs w)=some (1,cell x):=by
  unfold fN ma
  simp only [Nat.one_mul]
  rw [aA (by omega)]
  unfold iQ
  rw [sS]
  simp only
  unfold cut
  rw [aB (by rw [kX];omega),As,gA (by rw [kX];exact bo _)]
  rfl
 have kY:∀ (h2:Heap) (row:List ah),row.length=(l.length+1)*k->(∀ (i:Nat) (y:Z),(l++[x])[i]? = some y->cut row (i*k) k=some (cell y)) ->
  cN k cell (h2.push (.row row u false)) u h2.size (.slice (some ⟨h2.size,0,none⟩) (l.length+1) (G*k+(l.length+1))) (l++[x]):=λh2 row e1 e2 =>
  .inr ⟨l.length+1,row,by rw [dI];rfl,⟨by rw [Heap.size_push];omega,by rw [Heap.bC,aB rfl]⟩,e1,by rw [dI];exact bo _,by omega,e2⟩
 rcases f with ⟨rfl,rfl⟩|⟨q,row,rfl,e2,e3,e4,e5,e6⟩
 .have key:=zvC hd hi hk hs (by omega) bt (by simpa using hb) (by omega)
  rw [key]
  refine hK _ _ _ (kY _ (cell x) (by rw [kX];simp) (λi y hy=>?_)) (.inr rfl) (λ_=>?_) (λhA=>?_)
  .cases i with
   |zero =>
    simp at hy
    subst hy
    unfold cut
    rw [aB (by rw [kX];omega),Nat.zero_mul,As,gA (by rw [kX];exact bo _)]
   |succ i=>simp at hy
  .exact Ext.push _ _
  .exact (Ext.push _ _).ji
 .obtain ⟨c1,c2,c3⟩:=zof (k:=k) (q:=q) hk e5
  have rP:(h1.lay bs w).get A=some (.row row u false):=e2.lay bs w
  have hA:A < (h1.lay bs w).size:=(e2.on bs w).lt
  unfold iy
  simp only [hd,hi,hs,dX]
  rw [aA (by omega),aA (by
   simp only [su,jl,DT,not_or]
   refine ⟨⟨⟨by omega,by omega⟩,by omega⟩,by rw [bt];decide⟩),c1]
  by_cases hq:l.length+1<=q
  .rw [aB hq,aB (by simp [c2])]
   have nF:0+l.length*k+(cell x).length<=row.length:=by
    rw [e3,kX]
    have:(l.length+1)*k<=q*k:=qj _ hq
    rw [rF] at this
    omega
   have hw:lY A (0+l.length*k) (cell x) (h1.lay bs w)=some ((h1.lay bs w).set A (.row (aF row (0+l.length*k) (cell x)) u false)):=by
    unfold lY
    rw [rP]
    simp only
    rw [aB (by simp only [eo,jl];exact ⟨nF,bt⟩)]
   rw [hw]
   refine hK _ _ A (.inr ⟨q,aF row (0+l.length*k) (cell x),by rw [dI];rfl,Du hA,?_,by rw [dI];exact hq,e5,λj z hz=>?_⟩) (.inl ⟨rfl,e2.lt⟩) (λh=>by cases h) (λ_=>yY hA)
   .unfold aF;rw [dI,dI,fw,jM];omega
   .rw [j3] at nF ⊢
    rw [zh] at hz
    by_cases hj:j < l.length
    .rw [aB hj] at hz
     refine zeZ (e6 j z hz) nF (.inl ?_)
     have:(j+1)*k<=l.length*k:=qj _ hj
     rw [rF] at this
     exact this
    .rw [aA hj] at hz
     have Be:j=l.length:=by
      have:=(dH.1 hz).1
      simp only [v8] at this
      omega
     subst Be
     rw [Nat.sub_self,Ca] at hz
     cases hz
     unfold cut aF
     rw [aB (by rw [dI,dI,fw,jM,kX];rw [kX] at nF;omega),ka,Qx,fw,wW (by rw [fw];omega),pk]
     rw [show l.length*k - min (l.length*k) row.length=0 by omega,As,List.take_append_of_le_length (by rw [kX];exact bo _),gA (by rw [kX];exact bo _)]
  .rw [aA hq]
   have vp:l.length=q:=by omega
   have hc:ma (.slice (some ⟨A,0,none⟩) l.length (G*k+q)) k (h1.lay bs w)=some row:=by
    unfold ma
    simp only
    by_cases h0:l.length*k=0
    .rw [aB h0]
     congr 1
     rw [vp,<- e3] at h0
     exact (Ai.1 h0).symm
    .rw [aA h0]
     unfold iQ
     rw [rP]
     simp only
     unfold cut
     rw [aB (by rw [e3,vp];omega),As,gA (by rw [e3,vp];exact bo _)]
   rw [hc]
   simp only [dX]
   rw [aA (by omega)]
   simp only [rP]
   rw [aB (by simp [c2])]
   have iL:((h1.lay bs w).set A .dead).size=(h1.lay bs w).size:=Heap.size_set _ _ _
   have hn:=kY ((h1.lay bs w).set A .dead) (row++cell x) (by rw [dI,kX,e3,vp,rF]) (λi y hy=>by
    rw [zh] at hy
    by_cases hj:i < l.length
    .rw [aB hj] at hy
     exact zv6 (e6 i y hy)
    .rw [aA hj] at hy
     have Be:i=l.length:=by
      have:=(dH.1 hy).1
      simp only [v8] at this
      omega
     subst Be
     rw [Nat.sub_self,Ca] at hy
     cases hy
     have:=zr9 (a:=row) (b:=cell x) (o:=0) (n:=k) (c:=cell x) (by unfold cut;rw [aB (by rw [kX];omega),As,gA (by rw [kX];exact bo _)])
     rw [i0,e3,<- vp] at this
     exact this)
   rw [iL] at hn
   exact hK _ _ _ hn (.inr rfl) (λh=>by cases h) (λ_=>((yY hA).trans (Ext.push _ _).ji))
theorem cN.pop {n:Nat} (hk:0 < k) (hd:T.desc t=some (.slice u)) (hs:di T u=some k) (f:cN k cell h u A v l) (hn:n<=l.length) (aS:l≠[]):∃ v',jL T t v none (some (.int kd (n:Nat))) none=some v'/\cN k cell h u A v' (l.take n):=by
 rcases f with ⟨_,rfl⟩|⟨q,row,rfl,e2,e3,e4,e5,e6⟩
 .exact absurd rfl aS
 .obtain ⟨c1,c2,c3⟩:=zof (k:=k) (q:=q) hk e5
  refine ⟨.slice (some ⟨A,0,none⟩) n (G*k+q),?_,.inr ⟨q,row,by rw [fw,Nat.min_eq_left hn],e2,e3,by rw [fw];omega,e5,λi x hx=>e6 i x ?_⟩⟩
  .unfold jL rq wV
   simp only [hd,hs,dX]
   rw [aA (by omega)]
   simp only [c2,if_true,c1]
   rw [aB (by omega)]
   simp
  .rw [mc] at hx
   split at hx
   .exact hx
   .cases hx
end
end Go.Am
