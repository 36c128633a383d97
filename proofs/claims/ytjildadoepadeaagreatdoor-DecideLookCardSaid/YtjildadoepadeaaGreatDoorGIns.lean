/- slices.Insert of one element, in place of its text. No condition. -/
import Derived.Test.YtjildadoepadeaaGreatDoorGOv
import Derived.Lib.Overlaps
import Derived.Lib.AppendZerosOnto
set_option linter.unusedSimpArgs false
set_option linter.unusedVariables false
namespace Go.Am
open Go.RowKit
variable {fz:Nat × Nat} {cur:Array ai} {e t:TypeId} {m:List ai} {b o:Nat}
section
variable {P:Program} {gs:List Nat} {ρ:bU} {h:Heap} {w:World}
theorem zsX (hs:bj ρ h w) (dV:ρ h.size=none) {A off:Nat} {L:Loc} {cs news:List ai} {W:World} (hA:ρ A=some L) (hg:h.get A=some (.row cs e false))
 (lj:jY e cur.size fz) (lk:cur.size=L.po) (me:W.heap[L.b]? = some (.cells cur e fz)) (fL:∀ b,b≠L.b->W.heap[b]? = w.heap[b]?) (cA:W.heap.size=w.heap.size)
 (nD:W.os=w.os) (WC:W.tape=w.tape) (jv:W.output=w.output) (iv:cut cur.toList off news.length=some m) (hn:bQ ρ news m) :
 ∃ ρ',ρ' h.size=some ⟨L.b,off,L.po⟩/\Fr ρ ρ' h ((h.set A .dead).push (.row news e false)) w W/\bj ρ' ((h.set A .dead).push (.row news e false)) W:=by
 have oO:A < h.size:=Heap.aW hg
 have di:∀ A L',ρ A=some L'->(λA=>if A=h.size then some (⟨L.b,off,L.po⟩:Loc) else ρ A) A=some L':=by
  intro A L' hA
  have aV:A≠h.size:=λe=>by rw [e,dV] at hA;cases hA
  simp only [ay aV]
  exact hA
 have dr:∀ j,((h.set A .dead).push (.row news e false)).get j=if j=h.size then some (.row news e false) else if j=A then some .dead else h.get j:=by
  intro j
  rw [Heap.bX,Heap.size_set,Heap.aL _ _ _ _ oO]
 have aV:∀ A' L',ρ A'=some L'->A'≠A->live h A'->L'.b≠L.b:=by
  intro A' L' da e' gk heq
  rcases hs.inj A' A L' L da hA e' heq with h1|h1|h1
  .exact h1 gk
  .exact h1 ⟨_,hg,by simp⟩
  .obtain ⟨_,GX,e2,pR⟩:=h1
   rw [hg] at pR
   cases pR
 refine ⟨λA=>if A=h.size then some ⟨L.b,off,L.po⟩ else ρ A,by simp,⟨di,?_,nD,WC,jv,by rw [cA];exact bg _,?_,sx _ _,?_,?_⟩,⟨?_,?_⟩⟩
 .intro A' L' da LG
  split at da
  .rename_i e1
   cases da
   refine ⟨by omega,by rw [Heap.size_push,Heap.size_set];omega,.inr ⟨A,L,hA,rfl,?_,by rw [Heap.size_push,Heap.size_set];omega⟩⟩
   rw [Heap.dG,Heap.bY]
   omega
  .rw [LG] at da;cases da
 .rw [Heap.size_push,Heap.size_set];omega
 .intro b hb aq
  refine fL b λe'=>?_
  subst e'
  have:=aq A L hA rfl
  rw [Heap.dG,Heap.bY,Heap.size_push,Heap.size_set] at this
  omega
 .intro A' da hl
  rw [Heap.dG,Heap.bY] at hl
  rw [dr,ay (by omega),ay (by omega)]
 .intro A' L' da
  rw [dr]
  split at da
  .rename_i e1
   cases da
   rw [aC e1]
   exact ⟨_,fz,me,lj,lk,m,iv,hn.mono di⟩
  .rename_i e1
   rw [ay e1]
   by_cases e2:A'=A
   .rw [aC e2]
    show L'.b < _
    rw [cA]
    exact hs.lt da
   .rw [ay e2]
    exact (hs.im A' L' da).keep di (by rw [cA];exact bg _) λhl=>fL L'.b (aV A' L' da e2 hl)
 .intro A1 A2 L1 L2 h1 h2 ry hb
  unfold live jx
  rw [dr,dr]
  have aY:∀ A' L',A'≠h.size->ρ A'=some L'->L.b=L'.b->¬ ∃ b,(if A'=A then some bd.dead else h.get A')=some b/\b≠.dead:=by
   intro A' L' hh da i6
   by_cases e2:A'=A
   .simp [e2]
   .rw [ay e2]
    exact λgk=>aV A' L' da e2 gk i6.symm
  split at h1
  .rename_i e1
   split at h2
   .omega
   .rename_i e2
    cases h1
    right;left
    rw [ay e2]
    exact aY A2 L2 e2 h2 hb
  .rename_i e1
   split at h2
   .rename_i e2
    cases h2
    left
    rw [ay e1]
    exact aY A1 L1 e1 h1 hb.symm
   .rename_i e2
    rw [ay e1,ay e2]
    by_cases f1:A1=A
    .left;simp [f1]
    .by_cases f2:A2=A
     .right;left;simp [f2]
     .rw [ay f1,ay f2]
      exact hs.inj A1 A2 L1 L2 h1 h2 ry hb

theorem HK {w:World} {u ty e':TypeId} {i:TypeInfo} (ht:P.underlying t=some (.slice e)) (hi:P.info? e=some i) {n c m q:Nat} {s':ai} {news:List ai} (hlen:Builtin.lenOf s'=pure m) (hq:min m n=q)
 (hf:(Builtin.firstCells i.size q s').run P w=.ok news.toArray w) (fh:w.heap[b]? = some (.cells cur e' fz)) (lj:jY e' cur.size fz) (gy:o+news.length<=cur.size) (h1:∀ v∈news,v.oneCell'=true) :
 (Builtin.copy_ #[t,u] ty #[.slice (some ⟨b,o,none⟩) n c,s']).run P w=.ok (.int .i64 q) (w.setRow b (an cur.toList o news).toArray):=by
 have dI:=Ht P b o e' fz news 0 cur w fh lj (by omega) h1
 simp only [iN] at dI
 have ru:Nat.min m n=q:=hq
 simp [Builtin.copy_,run_underlying ht,hlen,ru,sizeOf,typeInfo,hi,hf,dI,goInt,an]
theorem zv1 {cur d us:List ai} {I N K:Nat} (hd:cut cur o N=some d) (hu:us.length=K) (hI:I<=N) (gy:o+N+K<=cur.length) :
 cut (an (an cur (o+I+K) (d.drop I)) (o+I) us) o (N+K)=some (d.take I++us++d.drop I):=by
 obtain ⟨h1,h2,h3⟩:=oA hd
 have nu:(d.drop I).length=N - I:=by rw [nX,h2]
 have sK:(d.take I).length=I:=by rw [ku,h2];omega
 have oX:(an cur (o+I+K) (d.drop I)).length=cur.length:=kO (by omega)
 refine oD (by rw [kO (by omega),oX];omega) (by rw [hJ,hJ,sK,nu,hu];omega) λj hj=>?_
 rw [bf _ _ _ _ (by omega),bf _ _ _ _ (by omega),hu,nu]
 by_cases c1:j < I
 .rw [aC (by omega),aC (by omega),mY,kR (by omega),nV,aC c1,h3 j (by omega)]
 .rw [ay (by omega)]
  by_cases c2:j < I+K
  .rw [aC (by omega),mY,lS (by omega),sK,kR (by omega)]
   congr 1
   omega
  .rw [ay (by omega),ay (by omega),aC (by omega),mY,lS (by omega),sK,lS (by omega),hu]
   congr 1
   omega
theorem zv2 {cur d us:List ai} {I N K:Nat} (hd:d.length=N) (jw:∀ j,j < I->cur[j]? = d[j]?) (hu:us.length=K) (hI:I<=N) (gy:N+K<=cur.length) :
 cut (an (an cur I us) (I+K) (d.drop I)) 0 (N+K)=some (d.take I++us++d.drop I):=by
 have nu:(d.drop I).length=N - I:=by rw [nX,hd]
 have sK:(d.take I).length=I:=by rw [ku,hd];omega
 have oX:(an cur I us).length=cur.length:=kO (by omega)
 refine oD (by rw [kO (by omega),oX];omega) (by rw [hJ,hJ,sK,nu,hu];omega) λj hj=>?_
 rw [jX,bf _ _ _ _ (by omega),bf _ _ _ _ (by omega),hu,nu]
 by_cases c1:j < I
 .rw [aC (by omega),aC (by omega),mY,kR (by omega),nV,aC c1,jw j c1]
 .by_cases c2:j < I+K
  .rw [aC (by omega),ay (by omega),aC (by omega),mY,lS (by omega),sK,kR (by omega)]
  .rw [ay (by omega),aC (by omega),mY,lS (by omega),sK,lS (by omega),hu]
   congr 1
   omega
def y8 (T:bm) (t:TypeId) (args:List ai) (h:Heap):Option (ai × Heap) :=
 match T.desc t,args with
 |some (.slice e),[.slice base n c,.int .i64 iz,.slice (some ⟨B,o2,none⟩) 1 c2] =>
  if iz=(n:Int) then lA T t (.slice base n c) (.slice (some ⟨B,o2,none⟩) 1 c2) h else
  match T.info e,base,h.get B with
  |some (k,bytes,_),some ⟨A,o,none⟩,some (.row _ eB false) =>
   match h.get A with
   |some (.row _ eA false) =>
    if (0<=iz/\iz < n/\A≠B/\eA=e/\eB=e/\e≠OE/\0 < k/\G<=c/\c / G=k)/\(n+1)*bytes<=140737488355328/\n+1<=1152921504606846976 then
     (ia A o (n*k) h).bind λdt=>(ia B o2 k h).bind λnews =>
     if news.all one=true/\dt.all one=true then some (.slice (some ⟨h.size,0,none⟩) (n+1) (G*k+(n+1)),(h.set A .dead).push (.row (dt.take (iz.toNat*k)++news++dt.drop (iz.toNat*k)) e false)) else none
    else none
   |_=>none
  |_,_,_=>none
 |_,_=>none
theorem YF {T:bm} {args:List ai} {h h':Heap} {v:ai} (ab:y8 T t args h=some (v,h')):aT h h':=by
 unfold y8 at ab
 split at ab
 .split at ab
  .exact RE ab
  .split at ab
   .split at ab
    .rename_i hg
     split at ab
     .simp only [bB] at ab
      obtain ⟨dt,_,news,_,ab⟩:=ab
      split at ab
      .cases ab
       exact (aT.set _ (Heap.aW hg)).trans (aT.push _ _)
      .cases ab
     .cases ab
    .cases ab
   .cases ab
 .cases ab
theorem Nf {w:World} {n:Nat} (fh:w.heap[b]? = some (.cells cur e fz)) (hc:cut cur.toList o n=some m):w.rangeAt b o m:=by
 obtain ⟨h1,h2,h3⟩:=oA hc
 intro j v hj
 have Ln:j < n:=by rw [<- h2];exact (fB.1 hj).1
 rw [cell_of_row w b _ cur e fz fh,<- Array.getElem?_toList,<- h3 j Ln]
 exact hj
theorem zqJ {w:World} {q:Nat} (h:w.rangeAt b o m):w.rangeAt b (o+q) (m.drop q):=by
 intro j v hj
 rw [ja] at hj
 rw [jN]
 exact h _ v hj
theorem M4 {w W:World} (h:w.rangeAt b o m) (hb:W.heap[b]? = w.heap[b]?):W.rangeAt b o m:=by
 intro j v hj
 have:=h j v hj
 unfold World.cell? at this ⊢
 rw [hb]
 exact this
set_option maxHeartbeats 0 in
theorem zqB {T:bm} (hT:T.Fits P) {f Mp tn tb:TypeId} {k bytes:Nat} {z:List ai} (hd:T.desc t=some (.slice e)) (eE:T.info e=some (k,bytes,z)) (hint:P.underlying tn=some (.int .i64))
 (cZ:∀ aB w,(callFunc f aB).run P w=.ok (.enter f aB) w)
 (LN:∀ (x y:ai) (w:World),(Extern.SlicesOverlaps.overlaps #[t,t] #[tb] #[x,y]).run P w=.ok (.bool false) w->(callFunc Mp #[x,y]).run P w=.ok (.value (.bool false)) w)
 (KQ:∀ (a:Option Addr) (n c:Nat) (av:Option Addr) (cv:Nat) (w w':World) (r:ai),n<=c->(∀ ty,(Builtin.append_ #[t,t] ty #[.slice a n c,.slice av 1 cv]).run P w=.ok r w') ->
  Calls P f #[.slice a n c,.int .i64 n,.slice av 1 cv] w λe W=>e=.returned r/\W=w')
 (C7:∀ (b off n c i:Nat) (av:Option Addr) (cv:Nat) (w w1 w2:World) (x1 x2:ai),i < n->n+1<=c->c<=9223372036854775807 ->
  (∀ lb cb,(callFunc Mp #[.slice av 1 cv,.slice (some ⟨b,off+(i+1)*k,none⟩) lb cb]).run P w=.ok (.value (.bool false)) w) ->
  (∀ ty dc sc,(Builtin.copy_ #[t,t] ty #[.slice (some ⟨b,off+(i+1)*k,none⟩) (n - i) dc,.slice (some ⟨b,off+i*k,none⟩) (n+1 - i) sc]).run P w.drew=.ok x1 w1) ->
  (∀ ty dc,(Builtin.copy_ #[t,t] ty #[.slice (some ⟨b,off+i*k,none⟩) (n+1 - i) dc,.slice av 1 cv]).run P w1=.ok x2 w2) ->
  Calls P f #[.slice (some ⟨b,off,none⟩) n c,.int .i64 i,.slice av 1 cv] w λe W=>e=.returned (.slice (some ⟨b,off,none⟩) (n+1) c)/\W=w2)
 (C4:∀ (b off n c i nb g:Nat) (av:Option Addr) (cv:Nat) (w w1 w2 w3:World) (x1 x2:ai),i < n->n<=c->c < n+1->n+1<=g->g<=9223372036854775807 ->
  (∀ ty,(Builtin.append_ #[t,tn] ty #[.slice (some ⟨b,off,none⟩) i c,.int .i64 ((n:Int)+1 - (i:Int))]).run P w=.ok (.slice (some ⟨nb,0,none⟩) (n+1) g) w1) ->
  (∀ ty dc,(Builtin.copy_ #[t,t] ty #[.slice (some ⟨nb,i*k,none⟩) (n+1 - i) dc,.slice av 1 cv]).run P w1=.ok x1 w2) ->
  (∀ ty dc sc,(Builtin.copy_ #[t,t] ty #[.slice (some ⟨nb,(i+1)*k,none⟩) (n - i) dc,.slice (some ⟨b,off+i*k,none⟩) (n - i) sc]).run P w2.drew=.ok x2 w3) ->
  Calls P f #[.slice (some ⟨b,off,none⟩) n c,.int .i64 i,.slice av 1 cv] w λe W=>e=.returned (.slice (some ⟨nb,0,none⟩) (n+1) g)/\W=w3):wK P gs f (y8 T t):=by
 intro args h v h' ab
 refine ⟨YF ab,λρ w aB _ hs bn hv=>.inr ⟨cZ aB w,?_⟩⟩
 unfold y8 at ab
 split at ab
 rotate_left
 .cases ab
 rename_i _ e' base n c iz B o2 c2 iI
 rw [hd] at iI
 cases iI
 obtain ⟨x,m0,e0,hx,hv⟩:=hv.of_cons
 obtain ⟨y,m1,e1,hy,hv⟩:=hv.of_cons
 obtain ⟨u,m2,e2,hu,hv⟩:=hv.of_cons
 have e3:=hv.of_nil
 subst e3 e2 e1
 have kF:aB=#[x,y,u]:=by rw [<- Bf];exact e0
 subst kF
 cases hy
 have ht:P.underlying t=some (.slice e):=hT.desc _ _ hd
 obtain ⟨inf,zv,hi,hk,vh,hz,Hm,rI,pf⟩:=hT.info e k bytes z eE
 have L7:=hu
 -- the new zJ list
 have Mj:∃ L cv,ρ B=some L/\u=.slice (some ⟨L.b,L.s+o2,none⟩) 1 cv:=by
  cases hu with
  |slice hA hc pW dC=>exact ⟨_,_,hA,by rw [dC (by omega)]⟩
  |bI hA hc gF pW hk hm dC=>exact ⟨_,_,hA,by rw [(dC (by omega)).1]⟩
 obtain ⟨LB,cv,hB,rfl⟩:=Mj
 by_cases gx:iz=(n:Int)
 .subst gx
  rw [aC rfl] at ab
  have key:∃ a' c',x=.slice a' n c'/\n<=c':=by
   cases hx with
   |cu=>exact ⟨_,_,rfl,bg _⟩
   |slice hA hc hn dC=>exact ⟨_,_,rfl,hn⟩
   |bI hA hc gF hn hk hm dC=>exact ⟨_,_,rfl,by omega⟩
  obtain ⟨a',c',rfl,pW⟩:=key
  obtain ⟨ρ',vc,w',cW,cy,cI,ub⟩:=RF (ty:=0) (u:=t) hT hs bn (.inl ⟨e,ht⟩) hx L7 ab
  refine (KQ a' n c' _ cv w w' vc pW (λty=>?_)).mono ?_
  .exact cW
  .rintro ed W ⟨rfl,rfl⟩
   exact ⟨ρ',vc,rfl,cy,cI,ub⟩
 rw [ay gx] at ab
 split at ab
 rotate_left
 .cases ab
 rename_i k' Jw z' A o csB eB vn G9
 rw [eE] at vn
 cases vn
 split at ab
 rotate_left
 .cases ab
 rename_i csA eA xQ
 split at ab
 rotate_left
 .cases ab
 rename_i Di
 obtain ⟨⟨pS,aR,Vk,Qa,Qb,KW,vo,hG,jP⟩,xN,PO⟩:=Di
 rw [Qa] at xQ
 rw [Qb] at G9
 clear Qa Qb
 simp only [bB] at ab
 obtain ⟨dt,hold,news,jt,ab⟩:=ab
 split at ab
 rotate_left
 .cases ab
 rename_i aY
 cases ab
 obtain ⟨i,rfl⟩:=H6 pS
 simp only [Gl] at bn ⊢
 have oV:i < n:=by omega
 cases hx with
 |slice hA hc hn dC=>omega
 |bI hA hc gF hn gz vq dC =>
 rename_i c' L ad
 obtain ⟨rfl,gy⟩:=dC (by omega)
 rw [jP] at gy
 have zO:=hs.im A L hA
 rw [xQ] at zO
 obtain ⟨cur,fz,fh,lj,lk,mA,Wd,WH⟩:=zO
 have xx:=hs.im B LB hB
 rw [G9] at xx
 obtain ⟨CR,fzB,ob,D2,Qq,mB,We,WI⟩:=xx
 have C5:LB.b≠L.b:=by
  intro i6
  rcases hs.inj A B L LB hA hB Vk i6.symm with g|g|⟨g,_⟩
  .exact g ⟨_,xQ,by simp⟩
  .exact g ⟨_,G9,by simp⟩
  .obtain ⟨_,_,g2⟩:=g
   rw [xQ] at g2
   cases g2
 -- what is read
 have u5:∀ {cs m:List ai} {cur:Array ai} {s q p:Nat} {l:List ai},cut cur.toList s cs.length=some m->bQ ρ cs m->cut cs q p=some l->∃ d,cut cur.toList (s+q) p=some d/\bQ ρ l d:=by
  intro cs m cur s q p l h1 h2 h3
  obtain ⟨d,fW,qa⟩:=h2.cut h3
  obtain ⟨k1,k2,k3⟩:=oA h1
  obtain ⟨d1,d2,d3⟩:=oA fW
  refine ⟨d,oD (by omega) d2 (λj hj=>?_),qa⟩
  rw [d3 j (by omega),k3 (q+j) (by omega),jN]
 simp only [ia,xQ] at hold
 simp only [ia,G9] at jt
 obtain ⟨d,fW,qa⟩:=u5 Wd WH hold
 obtain ⟨us,hus,jQ⟩:=u5 We WI jt
 obtain ⟨a1,a2,a3⟩:=oA fW
 obtain ⟨b1,b2,b3⟩:=oA hus
 have Ek:∀ v∈us,v.oneCell'=true:=jQ.one aY.1
 have Mo:∀ v∈d,v.oneCell'=true:=qa.one aY.2
 have e1:(i+1)*k=i*k+k:=sz i k
 have e2:(n+1)*k=n*k+k:=sz n k
 have e3:(n - i)*k=n*k - i*k:=Nat.sub_mul n i k
 have PW:i*k<=n*k:=nU _ (Nat.le_of_lt oV)
 have ld:ρ h.size=none:=bn _ (bg _) (by rw [Heap.size_push,Heap.size_set];omega)
 have fX:=wc (k:=k) (q:=n+1) vo (by unfold G;omega)
 have Qg:∀ cv,Builtin.lenOf (.slice (some ⟨LB.b,LB.s+o2,none⟩) 1 cv)=pure 1:=λ_=>rfl
 have vt:(dt.take (i*k)++news++dt.drop (i*k)).length=n*k+k:=by
  have q1:dt.length=n*k:=by rw [qa.1,a2]
  have q2:news.length=k:=by rw [jQ.1,b2]
  rw [hJ,hJ,ku,nX]
  omega
 have vF:bQ ρ (dt.take (i*k)++news++dt.drop (i*k)) (d.take (i*k)++us++d.drop (i*k)):=((qa.take _).append jQ).append (qa.drop _)
 have vD:∀ W:World,W.heap[LB.b]? = w.heap[LB.b]? -> ∀ cv,(Builtin.firstCells inf.size 1 (.slice (some ⟨LB.b,LB.s+o2,none⟩) 1 cv)).run P W=.ok us.toArray W:=λW hW cv =>
  Hs (M4 (Nf ob hus) hW) (by rw [b2,hk,Nat.one_mul])
 have vC:∀ W:World,W.heap[L.b]? = w.heap[L.b]? -> ∀ nn sc,(Builtin.firstCells inf.size (n - i) (.slice (some ⟨L.b,L.s+o+i*k,none⟩) nn sc)).run P W=.ok (d.drop (i*k)).toArray W:=λW hW nn sc =>
  Hs (M4 (zqJ (Nf fh fW)) hW) (by rw [nX,a2,hk,e3])
 have Dg:cur.toList.length=cur.size:=nT
 have hmul:∀ q,q<=c'->q*k<=c'*k:=λq hq=>nU _ hq
 have nu:(d.drop (i*k)).length=n*k - i*k:=by rw [nX,a2]
 have vl:∀ v∈d.drop (i*k),v.oneCell'=true:=λv hv=>Mo v (List.mem_of_mem_drop hv)
 by_cases eW:n+1<=c'
 .have Dq:=hmul _ eW
  rw [e2] at Dq
  -- in place
  have lK:∀ lb cb,(callFunc Mp #[.slice (some ⟨LB.b,LB.s+o2,none⟩) 1 cv,.slice (some ⟨L.b,L.s+o+(i+1)*k,none⟩) lb cb]).run P w=.ok (.value (.bool false)) w:=λlb cb=>by
   refine LN _ _ w (Lib.run_overlaps_apart w t tb e ht k (λw=>by simp [sizeOf,typeInfo,hi,hk]) ⟨LB.b,LB.s+o2,none⟩ ⟨L.b,L.s+o+(i+1)*k,none⟩ 1 cv lb cb C5 e e CR.size cur.size ?_ ?_ ?_ ?_ ?_)
   .simp only [World.shape?,ob]
   .simp only [World.shape?,fh]
   .have:0 < c'*k:=Nat.mul_pos (by omega) vo
    omega
   .have:=D2.Qx (LB.s+o2) (by have:=nT (xs:=CR);omega)
    simp only [World.frozen?,ob,zzg,decide_eq_false_iff_not]
    omega
   .have:=D2.JD.resolve_left KW
    simp only [World.frozen?,ob,zzg,decide_eq_false_iff_not]
    omega
  have qQ:w.drew.heap[L.b]? = some (.cells cur e fz):=fh
  have r1:=λty dc sc=>HK (w:=w.drew) (t:=t) (u:=t) (ty:=ty) (o:=L.s+o+(i+1)*k) (n:=n - i) (c:=dc) (m:=n+1 - i) (q:=n - i) (s':=.slice (some ⟨L.b,L.s+o+i*k,none⟩) (n+1 - i) sc) ht hi rfl (by omega) (vC w.drew rfl _ _) qQ lj (by rw [nu,e1];omega) vl
  have xz:=setRow_heap w.drew L.b cur (an cur.toList (L.s+o+(i+1)*k) (d.drop (i*k))).toArray e fz qQ
  have mq:(an cur.toList (L.s+o+(i+1)*k) (d.drop (i*k))).toArray.size=cur.size:=by
   rw [Gm,kO (by rw [nu,e1];omega),Dg]
  have r2:=λty dc=>HK (w:=w.drew.setRow L.b (an cur.toList (L.s+o+(i+1)*k) (d.drop (i*k))).toArray) (t:=t) (u:=t) (ty:=ty) (o:=L.s+o+i*k) (n:=n+1 - i) (c:=dc) (m:=1) (q:=1) (s':=.slice (some ⟨LB.b,LB.s+o2,none⟩) 1 cv) ht hi rfl (by omega)
   (vD _ (setRow_other w.drew L.b LB.b _ C5) cv) xz (by rw [mq];exact lj) (by rw [mq];omega) Ek
  refine (C7 L.b (L.s+o) n c' i _ cv w _ _ _ _ oV eW (by unfold maxLen at vq;omega) lK r1 r2).mono ?_
  rintro ed W ⟨rfl,rfl⟩
  have sE:=setRow_heap _ L.b _ (an (an cur.toList (L.s+o+(i+1)*k) (d.drop (i*k))).toArray.toList (L.s+o+i*k) us).toArray e fz xz
  have iv:cut (an (an cur.toList (L.s+o+(i+1)*k) (d.drop (i*k))).toArray.toList (L.s+o+i*k) us).toArray.toList (L.s+o) (dt.take (i*k)++news++dt.drop (i*k)).length=some (d.take (i*k)++us++d.drop (i*k)):=by
   rw [vt,e1,<- jN]
   exact zv1 fW b2 PW (by omega)
  have tY:(an (an cur.toList (L.s+o+(i+1)*k) (d.drop (i*k))).toArray.toList (L.s+o+i*k) us).toArray.size=cur.size:=by
   show (an (an cur.toList (L.s+o+(i+1)*k) (d.drop (i*k))) (L.s+o+i*k) us).length=cur.size
   rw [kO (by rw [kO (by rw [nu,e1];omega)];omega),kO (by rw [nu,e1];omega),Dg]
  obtain ⟨ρ',hρ,cy,cI⟩:=zsX (w:=w) (off:=L.s+o) hs ld hA xQ (by rw [tY];exact lj) (by rw [tY];exact lk) sE
   (λb hb=>by rw [setRow_other _ _ _ _ hb,setRow_other _ _ _ _ hb];rfl) (by simp [World.setRow,World.drew,-World.drew_eq]) rfl rfl rfl iv vF
  refine ⟨ρ',_,rfl,cy,cI,.bI hρ fX.1 (by rw [fX.2.1];exact eW) (by rw [fX.2.1];exact bg _) (by rw [fX.2.2];exact vo) vq (λ_=>⟨rfl,?_⟩)⟩
  rw [fX.2.2]
  exact gy
 .-- a new row
  have oS:c'=n:=by omega
  subst oS
  obtain ⟨g,hg⟩:∃ g,g=grownCap w (c'+1) c' e:=⟨_,rfl⟩
  have mi:=grownCap_ge w (c'+1) c' e
  have hle:=grownCap_le_maxLen w (c'+1) c' e (by unfold maxLen;omega)
  have DL:(Builtin.firstCells inf.size i (.slice (some ⟨L.b,L.s+o,none⟩) i c')).run P w.drew=.ok (d.take (i*k)).toArray w.drew :=
   Hs (M4 (R9 (Nf fh fW)) rfl) (by rw [ku,a2,hk];omega)
  have nj:=λty=>Lib.run_append_grow_zeros w t tn ty e inf zv .i64 .i64 ht hint hi hz (some ⟨L.b,L.s+o,none⟩) i c' (d.take (i*k)) DL (c'+1 - i) (by omega) (by omega) (by omega) (by omega)
   (by rw [vh]
       have:(c'+1 - i)*bytes<=(c'+1)*bytes:=nU _ (by omega)
       omega) (by rw [vh,show i+(c'+1 - i)=c'+1 by omega];exact growslice_fits (by omega) xN)
  rw [show i+(c'+1 - i)=c'+1 by omega,<- hg] at nj
  rw [show ((c'+1 - i:Nat):Int)=(c':Int)+1 - (i:Int) by omega] at nj
  rw [<- hg] at mi hle
  obtain ⟨gq,xo⟩:∃ gq:Array ai,gq=(d.take (i*k)).toArray++Builtin.zeroCells zv.cells (c'+1 - i)++Builtin.zeroCells zv.cells (g - (c'+1)):=⟨_,rfl⟩
  rw [<- xo] at nj
  have vG:zv.cells.size=k:=by rw [<- nT,Hm,rI]
  have sK:(d.take (i*k)).length=i*k:=by rw [ku,a2];omega
  have e4:(c'+1 - i)*k=c'*k+k - i*k:=by rw [Nat.sub_mul,e2]
  have e5:(g - (c'+1))*k=g*k - (c'*k+k):=by rw [Nat.sub_mul,e2]
  have hgk:c'*k+k<=g*k:=by rw [<- e2];exact nU _ mi
  have C8:gq.size=g*k:=by
   rw [xo]
   simp only [Array.size_append,Gm,size_zeroCells,vG,sK,e4,e5]
   omega
  have zM:gq.toList.length=g*k:=by rw [nT,C8]
  have Vr:∀ j,j < i*k->gq.toList[j]? = d[j]? := by
   intro j hj
   rw [xo,Gi,Gi,mY,kR (by rw [List.toList_toArray,sK];exact hj),List.toList_toArray,nV,aC hj]
  have aV:L.b≠w.heap.size:=by have:=hs.lt hA;omega
  have Wj:LB.b≠w.heap.size:=by have:=hs.lt hB;omega
  have qQ:(w.drew.alloc (.cells gq e)).heap[w.heap.size]? = some (.cells gq e (0,0)):=by simp [World.alloc,World.drew,-World.alloc_eq,-World.drew_eq]
  have rz:∀ j,j < w.heap.size->(w.drew.alloc (.cells gq e)).heap[j]? = w.heap[j]? := λj hj=>by
   have:j≠w.heap.size:=by omega
   simp [World.alloc,World.drew,-World.alloc_eq,-World.drew_eq,qi,this]
  have D1:jY e gq.size (0,0):=.zero _ _
  have r1:=λty dc=>HK (w:=w.drew.alloc (.cells gq e)) (t:=t) (u:=t) (ty:=ty) (o:=i*k) (n:=c'+1 - i) (c:=dc) (m:=1) (q:=1) (s':=.slice (some ⟨LB.b,LB.s+o2,none⟩) 1 cv) ht hi rfl (by omega)
   (vD _ (rz _ (hs.lt hB)) cv) qQ D1 (by rw [b2,C8];omega) Ek
  have mq:(an gq.toList (i*k) us).toArray.size=gq.size:=by
   show (an gq.toList (i*k) us).length=gq.size
   rw [kO (by rw [b2,zM];omega),zM,C8]
  have xz:=setRow_heap _ w.heap.size gq (an gq.toList (i*k) us).toArray e (0,0) qQ
  have r2:=λty dc sc=>HK (w:=((w.drew.alloc (.cells gq e)).setRow w.heap.size (an gq.toList (i*k) us).toArray).drew) (t:=t) (u:=t) (ty:=ty) (o:=(i+1)*k) (n:=c' - i) (c:=dc) (m:=c' - i) (q:=c' - i) (s':=.slice (some ⟨L.b,L.s+o+i*k,none⟩) (c' - i) sc) ht hi rfl (by omega)
   (vC _ (by show ((w.drew.alloc (.cells gq e)).setRow w.heap.size (an gq.toList (i*k) us).toArray).heap[L.b]? = _
             rw [setRow_other _ _ _ _ aV];exact rz _ (hs.lt hA)) _ _) xz (by rw [mq];exact D1) (by rw [nu,e1,mq,C8];omega) vl
  refine (C4 L.b (L.s+o) c' c' i w.heap.size g _ cv w _ _ _ _ _ oV (bg _) (by omega) mi (by unfold maxLen at hle;omega) nj r1 r2).mono ?_
  rintro ed W ⟨rfl,rfl⟩
  have sE:=setRow_heap _ w.heap.size _ (an (an gq.toList (i*k) us).toArray.toList ((i+1)*k) (d.drop (i*k))).toArray e (0,0) (show (((w.drew.alloc (.cells gq e)).setRow w.heap.size (an gq.toList (i*k) us).toArray).drew).heap[w.heap.size]? = _ from xz)
  have tY:(an (an gq.toList (i*k) us).toArray.toList ((i+1)*k) (d.drop (i*k))).toArray.size=g*k:=by
   show (an (an gq.toList (i*k) us) ((i+1)*k) (d.drop (i*k))).length=g*k
   rw [kO (by rw [kO (by rw [b2,zM];omega),zM,nu,e1];omega),kO (by rw [b2,zM];omega),zM]
  have iv:cut (an (an gq.toList (i*k) us).toArray.toList ((i+1)*k) (d.drop (i*k))).toArray.toList 0 (dt.take (i*k)++news++dt.drop (i*k)).length=some (d.take (i*k)++us++d.drop (i*k)):=by
   rw [vt,e1]
   exact zv2 a2 Vr b2 PW (by rw [nT,C8];omega)
  obtain ⟨KK,yI⟩:=SK hs xQ
  obtain ⟨ρ',hρ,cy,cI⟩:=HD (L:=⟨w.heap.size,0,g*k⟩) (b:=.row (dt.take (i*k)++news++dt.drop (i*k)) e false) yI ld (W:=(((w.drew.alloc (.cells gq e)).setRow w.heap.size (an gq.toList (i*k) us).toArray).drew).setRow w.heap.size (an (an gq.toList (i*k) us).toArray.toList ((i+1)*k) (d.drop (i*k))).toArray)
   (λj hj=>by
    rw [setRow_other _ _ _ _ (by omega)]
    show ((w.drew.alloc (.cells gq e)).setRow w.heap.size (an gq.toList (i*k) us).toArray).heap[j]? = _
    rw [setRow_other _ _ _ _ (by omega)]
    exact rz _ hj)
   (by simp [World.setRow,World.drew,World.alloc,-World.alloc_eq,-World.drew_eq]) (by simp [World.setRow,World.drew,World.alloc,-World.alloc_eq,-World.drew_eq]) (by simp [World.setRow,World.drew,World.alloc,-World.alloc_eq,-World.drew_eq]) (by simp [World.setRow,World.drew,World.alloc,-World.alloc_eq,-World.drew_eq])
   (bg _) (λρ' Lj=>⟨_,(0,0),sE,.zero _ _,tY,_,iv,vF.mono Lj⟩)
  refine ⟨ρ',_,rfl,KK.trans cy,cI,.bI hρ fX.1 (by rw [fX.2.1];exact mi) (by rw [fX.2.1];exact bg _) (by rw [fX.2.2];exact vo) hle (λ_=>⟨by simp,?_⟩)⟩
  rw [fX.2.2]
  simp
end
end Go.Am
